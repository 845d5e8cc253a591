/-
  The reference's Digit and Digits: the same plain functions.
-/
import Derived.Test.YtpmalmednkknpaaDoorLitMag3
set_option linter.unusedVariables false
namespace Go.Proofs.YtpmalmednkknpaaDoor
open Go.RowKit
attribute [local go_sem] ByteArray.extract_mk

set_option maxHeartbeats 1000000 in
set_option maxRecDepth 100000 in
theorem rdigit_any (c : UInt8) (w : World) : Calls Tryd.prog 37 #[.int .u8 (c.toNat : Int)] w fun e w' => e = .returned (.int .i64 (Ltr.dig c)) ∧ w = w' := by
  have hc := c.toNat_lt
  unfold Ltr.dig
  obtain ⟨n, hn⟩ : ∃ n : Int, (c.toNat : Int) = n := ⟨_, rfl⟩
  by_cases h1 : 48 ≤ c.toNat ∧ c.toNat ≤ 57
  · rw [if_pos h1, hn]
    have a1 : decide (48 ≤ n) = true := by simp; omega
    have a2 : decide (n ≤ 57) = true := by simp; omega
    have w1 : IntKind.i64.wrap n = n := by rw [IntKind.wrap_i64]; omega
    have w2 : IntKind.i64.wrap (n - 48) = n - 48 := by rw [IntKind.wrap_i64]; omega
    clear hn h1
    go_enter Tryd.func37, Tryd.ntmps37
    go_wp2
    go_ret
    exact ⟨rfl, rfl⟩
  · rw [if_neg h1]
    have hA : (decide (48 ≤ n) = false) ∨ (decide (48 ≤ n) = true ∧ decide (n ≤ 57) = false) := by
      by_cases h : 48 ≤ n
      · exact .inr ⟨by simpa using h, by simp; omega⟩
      · exact .inl (by simpa using h)
    by_cases h2 : 97 ≤ c.toNat ∧ c.toNat ≤ 102
    · rw [if_pos h2, hn]
      have a1 : decide (97 ≤ n) = true := by simp; omega
      have a2 : decide (n ≤ 102) = true := by simp; omega
      have w1 : IntKind.i64.wrap n = n := by rw [IntKind.wrap_i64]; omega
      have w2 : IntKind.i64.wrap (n - 97) = n - 97 := by rw [IntKind.wrap_i64]; omega
      have w3 : IntKind.i64.wrap (n - 97 + 10) = n - 87 := by rw [IntKind.wrap_i64]; omega
      clear hn h1 h2
      rcases hA with hA | ⟨hA, hA2⟩
      all_goals
        go_enter Tryd.func37, Tryd.ntmps37
        go_wp2
        go_ret
        exact ⟨rfl, rfl⟩
    · rw [if_neg h2]
      have hB : (decide (97 ≤ n) = false) ∨ (decide (97 ≤ n) = true ∧ decide (n ≤ 102) = false) := by
        by_cases h : 97 ≤ n
        · exact .inr ⟨by simpa using h, by simp; omega⟩
        · exact .inl (by simpa using h)
      by_cases h3 : 65 ≤ c.toNat ∧ c.toNat ≤ 70
      · rw [if_pos h3, hn]
        have a1 : decide (65 ≤ n) = true := by simp; omega
        have a2 : decide (n ≤ 70) = true := by simp; omega
        have w1 : IntKind.i64.wrap n = n := by rw [IntKind.wrap_i64]; omega
        have w2 : IntKind.i64.wrap (n - 65) = n - 65 := by rw [IntKind.wrap_i64]; omega
        have w3 : IntKind.i64.wrap (n - 65 + 10) = n - 55 := by rw [IntKind.wrap_i64]; omega
        clear hn h1 h2 h3
        rcases hA with hA | ⟨hA, hA2⟩ <;> rcases hB with hB | ⟨hB, hB2⟩
        all_goals
          go_enter Tryd.func37, Tryd.ntmps37
          go_wp2
          go_ret
          exact ⟨rfl, rfl⟩
      · rw [if_neg h3, hn]
        have hC : (decide (65 ≤ n) = false) ∨ (decide (65 ≤ n) = true ∧ decide (n ≤ 70) = false) := by
          by_cases h : 65 ≤ n
          · exact .inr ⟨by simpa using h, by simp; omega⟩
          · exact .inl (by simpa using h)
        clear hn h1 h2 h3
        rcases hA with hA | ⟨hA, hA2⟩ <;> rcases hB with hB | ⟨hB, hB2⟩ <;> rcases hC with hC | ⟨hC, hC2⟩
        all_goals
          go_enter Tryd.func37, Tryd.ntmps37
          go_wp2
          go_ret
          exact ⟨rfl, rfl⟩

set_option maxHeartbeats 2000000 in
set_option maxRecDepth 100000 in
theorem digits_any (l : List UInt8) (w : World) (hl : l.length ≤ 1000000) : Calls Tryd.prog 27 #[.string ⟨l.toArray⟩] w fun e w' => e = .returned (.tuple #[.int .u64 ((Ltr.magR (Ltr.mag l)).1 : Int), .bool (Ltr.magR (Ltr.mag l)).2.1, .bool (Ltr.magR (Ltr.mag l)).2.2]) ∧ w = w' := by
  obtain ⟨R, hR⟩ : ∃ R, Ltr.mag l = R := ⟨_, rfl⟩
  rw [hR]
  by_cases h2 : 2 < l.length
  · have g1 : decide ((2 : Int) < (l.length : Int)) = true := by simp; omega
    have i0 : (0 : Int) < (l.length : Int) := by omega
    have i1 : (1 : Int) < (l.length : Int) := by omega
    obtain ⟨c0, hc0⟩ : ∃ c, l[0] = c := ⟨_, rfl⟩
    obtain ⟨c1, hc1⟩ : ∃ c, l[1] = c := ⟨_, rfl⟩
    have b0 := lba_get l 0 (by omega) c0 hc0
    have b1 := lba_get l 1 (by omega) c1 hc1
    have ht : l.take 2 = [c0, c1] := by
      rw [List.take_succ_eq_append_getElem (show 1 < l.length by omega), List.take_succ_eq_append_getElem (show 0 < l.length by omega), hc0, hc1]
      rfl
    have hx : Ltr.hexed l = (c0 == 48 && c1 == 120) := by
      unfold Ltr.hexed
      rw [ht]
      have : decide (2 < l.length) = true := by simpa using h2
      rw [this]
      simp
    by_cases hh : c0 = 48 ∧ c1 = 120
    · obtain ⟨rfl, rfl⟩ := hh
      have HR : Hid (Ltr.mgo 16 (l.drop 2) 0 false = R) := Lib.hid (by rw [← hR]; unfold Ltr.mag; rw [hx]; rfl)
      clear hR hx ht
      go_enter Tryd.func27, Tryd.ntmps27
      go_wp2_with fail
      go_loopw [7, 8, 9, 10] (fun nv ov bv i wr => ∃ (k N : Nat) (bt : Bool), k ≤ l.length ∧ i = .int .i64 k ∧ nv = .int .u64 ((N % 18446744073709551616 : Nat) : Int) ∧ ov = .bool (decide (18446744073709551616 ≤ N)) ∧ bv = .bool bt ∧ Ltr.mgo 16 (l.drop k) N bt = R ∧ wr = w) (fun _ _ _ i _ => l.length - (intOf i).toNat)
      case atStart => exact ⟨2, 0, false, by omega, rfl, rfl, rfl, rfl, HR.out, rfl⟩
      case round =>
        obtain ⟨k, N, bt, hk, rfl, rfl, rfl, rfl, hm, rfl⟩ := hrel
        by_cases hkl : k < l.length
        · obtain ⟨c, hc⟩ : ∃ c, l[k] = c := ⟨_, rfl⟩
          have hb := lba_get l k hkl c hc
          have k0 : (0 : Int) ≤ (k : Int) := Int.natCast_nonneg _
          have k1 : (k : Int) < (l.length : Int) := by omega
          obtain ⟨n, hn⟩ : ∃ n, N % 18446744073709551616 = n := ⟨_, rfl⟩
          have hnl : n < 18446744073709551616 := by omega
          have hd95 : Hid (∀ W : World, Calls Tryd.prog 37 #[.int .u8 95] W fun e w' => e = .returned (.int .i64 (-1)) ∧ W = w') := Lib.hid (fun W => rdigit_any 95 W)
          by_cases hs : (c == 95) = true ∧ bt = true
          · obtain ⟨h95, rfl⟩ := hs
            have e95 : c = 95 := by simpa using h95
            subst e95
            have hm2 := (Ltr.mgo_skip (base := 16) (N := N) hkl hc h95).symm.trans hm
            have HM := Lib.hid hm2
            clear hm hm2 hc h95
            rw [hn]
            go_wp2_with (go_at_call 37; refine (hd95.out _).mono ?_; rintro e w4 ⟨rfl, rfl⟩)
            go_roundw
            case rel => exact ⟨k + 1, N, false, by omega, by go_num, by rw [hn], rfl, rfl, HM.out, by first | rfl | trivial⟩
            case measure => simp [intOf]; omega
          · have hs2 : ((c == 95) && bt) = false := by
              rcases hcc : (c == 95) with _ | _ <;> rcases bt with _ | _ <;> simp_all
            by_cases h95 : c = 95
            · subst h95
              have hbt : bt = false := by simpa using hs2
              subst hbt
              have hR0 : R = none := (Ltr.mgo_bad (base := 16) (N := N) hkl hc hs2 (by left; decide)).symm.trans hm |>.symm
              have HR0 := Lib.hid hR0
              clear hm hc hs hs2 hR0
              rw [hn]
              go_wp2_with (go_at_call 37; refine (hd95.out _).mono ?_; rintro e w4 ⟨rfl, rfl⟩)
              go_ret3
              exact ⟨by rw [HR0.out]; rfl, rfl⟩
            have n95 := lcne c 95 (by omega) h95
            simp only [Int.cast_ofNat_Int] at n95
            have hdl := Ltr.dig_le c
            obtain ⟨D, hD⟩ : ∃ D, Ltr.dig c = D := ⟨_, rfl⟩
            have hdg : Hid (∀ W : World, Calls Tryd.prog 37 #[.int .u8 (c.toNat : Int)] W fun e w' => e = .returned (.int .i64 D) ∧ W = w') := Lib.hid (fun W => by have := rdigit_any c W; rw [hD] at this; exact this)
            rw [hD] at hdl
            by_cases hneg : D < 0
            · have hR0 : R = none := (Ltr.mgo_bad (base := 16) (N := N) hkl hc hs2 (by left; rw [hD]; exact hneg)).symm.trans hm |>.symm
              have HR0 := Lib.hid hR0
              have d1 : decide (D < 0) = true := by simpa using hneg
              clear hm hc hs hs2 hR0 hneg hD h95
              rw [hn]
              go_wp2_with (go_at_call 37; refine (hdg.out _).mono ?_; rintro e w4 ⟨rfl, rfl⟩)
              go_ret3
              exact ⟨by rw [HR0.out]; rfl, rfl⟩
            have d1 : decide (D < 0) = false := by simpa using hneg
            obtain ⟨d, hd⟩ : ∃ d : Nat, D = (d : Int) := ⟨D.toNat, by omega⟩
            subst hd
            have u1 : IntKind.u64.wrap (d : Int) = (d : Int) := by rw [IntKind.wrap_u64]; omega
            by_cases hbig : 16 ≤ d
            · have hR0 : R = none := (Ltr.mgo_bad (base := 16) (N := N) hkl hc hs2 (by right; rw [hD]; omega)).symm.trans hm |>.symm
              have HR0 := Lib.hid hR0
              have d2 : decide ((16 : Int) ≤ (d : Int)) = true := by simp; omega
              clear hm hc hs hs2 hR0 hneg hD h95
              rw [hn]
              go_wp2_with (go_at_call 37; refine (hdg.out _).mono ?_; rintro e w4 ⟨rfl, rfl⟩)
              go_ret3
              exact ⟨by rw [HR0.out]; rfl, rfl⟩
            have d2 : decide ((16 : Int) ≤ (d : Int)) = false := by simp; omega
            have hm2 := (Ltr.mgo_dig (base := 16) (N := N) hkl hc hs2 d hD (by omega)).symm.trans hm
            obtain ⟨L, hL⟩ : ∃ L, n * 16 % 18446744073709551616 = L := ⟨_, rfl⟩
            obtain ⟨Sm, hSm⟩ : ∃ Sm, (L + d) % 18446744073709551616 = Sm := ⟨_, rfl⟩
            obtain ⟨Q, hQ⟩ : ∃ Q, (18446744073709551615 - d) / 16 = Q := ⟨_, rfl⟩
            have m1 : IntKind.u64.wrap ((n : Int) * 16) = (L : Int) := by rw [IntKind.wrap_u64]; omega
            have m2 : IntKind.u64.wrap ((L : Int) + (d : Int)) = (Sm : Int) := by rw [IntKind.wrap_u64]; omega
            have m3 : IntKind.u64.wrap (18446744073709551615 - (d : Int)) = 18446744073709551615 - (d : Int) := by rw [IntKind.wrap_u64]; omega
            have m4 : (18446744073709551615 - (d : Int)).tdiv 16 = (Q : Int) := by rw [Int.tdiv_eq_ediv_of_nonneg (by omega)]; omega
            have m5 : IntKind.u64.wrap (Q : Int) = (Q : Int) := by rw [IntKind.wrap_u64]; omega
            have hsum : (N * 16 + d) % 18446744073709551616 = Sm := by omega
            have HM := Lib.hid hm2
            have HSU := Lib.hid hsum
            by_cases hov : 18446744073709551616 ≤ N
            · have o1 : decide (18446744073709551616 ≤ N) = true := by simpa using hov
              have HO : Hid (decide (18446744073709551616 ≤ N * 16 + d) = true) := Lib.hid (by simp; omega)
              rw [hn, o1]
              clear hm hm2 hc hs hs2 hneg hD h95 hL hSm hQ hsum hov o1 hbig hn
              go_wp2_with (go_at_call 37; refine (hdg.out _).mono ?_; rintro e w4 ⟨rfl, rfl⟩)
              go_roundw
              case rel => exact ⟨k + 1, N * 16 + d, true, by omega, by go_num, by rw [HSU.out], by rw [HO.out], rfl, HM.out, by first | rfl | trivial⟩
              case measure => simp [intOf]; omega
            · have o1 : decide (18446744073709551616 ≤ N) = false := by simpa using hov
              have hob : decide (Q < n) = decide (18446744073709551616 ≤ N * 16 + d) := by
                by_cases hq : 18446744073709551616 ≤ N * 16 + d
                · have : Q < n := by omega
                  simp [hq, this]
                · have : ¬ Q < n := by omega
                  simp [hq, this]
              obtain ⟨ob, hob2⟩ : ∃ ob, decide (18446744073709551616 ≤ N * 16 + d) = ob := ⟨_, rfl⟩
              rw [hob2] at hob
              have HO := Lib.hid hob2
              rw [hn, o1]
              clear hm hm2 hc hs hs2 hneg hD h95 hL hSm hQ hsum hov o1 hbig hn hob2
              go_wp2_with (go_at_call 37; refine (hdg.out _).mono ?_; rintro e w4 ⟨rfl, rfl⟩)
              go_roundw
              case rel => exact ⟨k + 1, N * 16 + d, true, by omega, by go_num, by rw [HSU.out], by rw [HO.out], rfl, HM.out, by first | rfl | trivial⟩
              case measure => simp [intOf]; omega
        · obtain rfl : k = l.length := by omega
          have hR0 : R = some (N, bt) := by rw [← hm]; simp [Ltr.mgo]
          have HR0 := Lib.hid hR0
          obtain ⟨n, hn⟩ : ∃ n, N % 18446744073709551616 = n := ⟨_, rfl⟩
          obtain ⟨o, ho⟩ : ∃ o, decide (18446744073709551616 ≤ N) = o := ⟨_, rfl⟩
          have HN := Lib.hid hn
          have HO := Lib.hid ho
          rw [hn, ho]
          clear hm hR0 hn ho
          go_wp2_with fail
          go_ret3
          exact ⟨by rw [HR0.out]; simp only [Ltr.magR]; rw [HN.out, HO.out]; rfl, rfl⟩
    · have HR : Hid (Ltr.mgo 10 (l.drop 0) 0 false = R) := Lib.hid (by
        have e : Ltr.hexed l = false := by rw [hx]; rcases h1 : (c0 == 48) with _ | _ <;> rcases h3 : (c1 == 120) with _ | _ <;> simp_all
        rw [← hR]; unfold Ltr.mag; rw [e]; rfl)
      have hway : (((c0.toNat : Int) == 48) = false) ∨ (c0 = 48 ∧ ((c1.toNat : Int) == 120) = false) := by
        by_cases h : c0 = 48
        · refine .inr ⟨h, ?_⟩
          have := lcne c1 120 (by omega) (fun e => hh ⟨h, e⟩)
          simpa using this
        · have := lcne c0 48 (by omega) h
          exact .inl (by simpa using this)
      clear hR hx ht hh
      rcases hway with hw | ⟨rfl, hw⟩
      all_goals
        go_enter Tryd.func27, Tryd.ntmps27
        go_wp2_with fail
        go_loopw [7, 8, 9, 10] (fun nv ov bv i wr => ∃ (k N : Nat) (bt : Bool), k ≤ l.length ∧ i = .int .i64 k ∧ nv = .int .u64 ((N % 18446744073709551616 : Nat) : Int) ∧ ov = .bool (decide (18446744073709551616 ≤ N)) ∧ bv = .bool bt ∧ Ltr.mgo 10 (l.drop k) N bt = R ∧ wr = w) (fun _ _ _ i _ => l.length - (intOf i).toNat)
        case atStart => exact ⟨0, 0, false, by omega, rfl, rfl, rfl, rfl, HR.out, rfl⟩
        case round =>
          obtain ⟨k, N, bt, hk, rfl, rfl, rfl, rfl, hm, rfl⟩ := hrel
          by_cases hkl : k < l.length
          · obtain ⟨c, hc⟩ : ∃ c, l[k] = c := ⟨_, rfl⟩
            have hb := lba_get l k hkl c hc
            have k0 : (0 : Int) ≤ (k : Int) := Int.natCast_nonneg _
            have k1 : (k : Int) < (l.length : Int) := by omega
            obtain ⟨n, hn⟩ : ∃ n, N % 18446744073709551616 = n := ⟨_, rfl⟩
            have hnl : n < 18446744073709551616 := by omega
            have hd95 : Hid (∀ W : World, Calls Tryd.prog 37 #[.int .u8 95] W fun e w' => e = .returned (.int .i64 (-1)) ∧ W = w') := Lib.hid (fun W => rdigit_any 95 W)
            by_cases hs : (c == 95) = true ∧ bt = true
            · obtain ⟨h95, rfl⟩ := hs
              have e95 : c = 95 := by simpa using h95
              subst e95
              have hm2 := (Ltr.mgo_skip (base := 10) (N := N) hkl hc h95).symm.trans hm
              have HM := Lib.hid hm2
              clear hm hm2 hc h95
              rw [hn]
              go_wp2_with (go_at_call 37; refine (hd95.out _).mono ?_; rintro e w4 ⟨rfl, rfl⟩)
              go_roundw
              case rel => exact ⟨k + 1, N, false, by omega, by go_num, by rw [hn], rfl, rfl, HM.out, by first | rfl | trivial⟩
              case measure => simp [intOf]; omega
            · have hs2 : ((c == 95) && bt) = false := by
                rcases hcc : (c == 95) with _ | _ <;> rcases bt with _ | _ <;> simp_all
              by_cases h95 : c = 95
              · subst h95
                have hbt : bt = false := by simpa using hs2
                subst hbt
                have hR0 : R = none := (Ltr.mgo_bad (base := 10) (N := N) hkl hc hs2 (by left; decide)).symm.trans hm |>.symm
                have HR0 := Lib.hid hR0
                clear hm hc hs hs2 hR0
                rw [hn]
                go_wp2_with (go_at_call 37; refine (hd95.out _).mono ?_; rintro e w4 ⟨rfl, rfl⟩)
                go_ret3
                exact ⟨by rw [HR0.out]; rfl, rfl⟩
              have n95 := lcne c 95 (by omega) h95
              simp only [Int.cast_ofNat_Int] at n95
              have hdl := Ltr.dig_le c
              obtain ⟨D, hD⟩ : ∃ D, Ltr.dig c = D := ⟨_, rfl⟩
              have hdg : Hid (∀ W : World, Calls Tryd.prog 37 #[.int .u8 (c.toNat : Int)] W fun e w' => e = .returned (.int .i64 D) ∧ W = w') := Lib.hid (fun W => by have := rdigit_any c W; rw [hD] at this; exact this)
              rw [hD] at hdl
              by_cases hneg : D < 0
              · have hR0 : R = none := (Ltr.mgo_bad (base := 10) (N := N) hkl hc hs2 (by left; rw [hD]; exact hneg)).symm.trans hm |>.symm
                have HR0 := Lib.hid hR0
                have d1 : decide (D < 0) = true := by simpa using hneg
                clear hm hc hs hs2 hR0 hneg hD h95
                rw [hn]
                go_wp2_with (go_at_call 37; refine (hdg.out _).mono ?_; rintro e w4 ⟨rfl, rfl⟩)
                go_ret3
                exact ⟨by rw [HR0.out]; rfl, rfl⟩
              have d1 : decide (D < 0) = false := by simpa using hneg
              obtain ⟨d, hd⟩ : ∃ d : Nat, D = (d : Int) := ⟨D.toNat, by omega⟩
              subst hd
              have u1 : IntKind.u64.wrap (d : Int) = (d : Int) := by rw [IntKind.wrap_u64]; omega
              by_cases hbig : 10 ≤ d
              · have hR0 : R = none := (Ltr.mgo_bad (base := 10) (N := N) hkl hc hs2 (by right; rw [hD]; omega)).symm.trans hm |>.symm
                have HR0 := Lib.hid hR0
                have d2 : decide ((10 : Int) ≤ (d : Int)) = true := by simp; omega
                clear hm hc hs hs2 hR0 hneg hD h95
                rw [hn]
                go_wp2_with (go_at_call 37; refine (hdg.out _).mono ?_; rintro e w4 ⟨rfl, rfl⟩)
                go_ret3
                exact ⟨by rw [HR0.out]; rfl, rfl⟩
              have d2 : decide ((10 : Int) ≤ (d : Int)) = false := by simp; omega
              have hm2 := (Ltr.mgo_dig (base := 10) (N := N) hkl hc hs2 d hD (by omega)).symm.trans hm
              obtain ⟨L, hL⟩ : ∃ L, n * 10 % 18446744073709551616 = L := ⟨_, rfl⟩
              obtain ⟨Sm, hSm⟩ : ∃ Sm, (L + d) % 18446744073709551616 = Sm := ⟨_, rfl⟩
              obtain ⟨Q, hQ⟩ : ∃ Q, (18446744073709551615 - d) / 10 = Q := ⟨_, rfl⟩
              have m1 : IntKind.u64.wrap ((n : Int) * 10) = (L : Int) := by rw [IntKind.wrap_u64]; omega
              have m2 : IntKind.u64.wrap ((L : Int) + (d : Int)) = (Sm : Int) := by rw [IntKind.wrap_u64]; omega
              have m3 : IntKind.u64.wrap (18446744073709551615 - (d : Int)) = 18446744073709551615 - (d : Int) := by rw [IntKind.wrap_u64]; omega
              have m4 : (18446744073709551615 - (d : Int)).tdiv 10 = (Q : Int) := by rw [Int.tdiv_eq_ediv_of_nonneg (by omega)]; omega
              have m5 : IntKind.u64.wrap (Q : Int) = (Q : Int) := by rw [IntKind.wrap_u64]; omega
              have hsum : (N * 10 + d) % 18446744073709551616 = Sm := by omega
              have HM := Lib.hid hm2
              have HSU := Lib.hid hsum
              by_cases hov : 18446744073709551616 ≤ N
              · have o1 : decide (18446744073709551616 ≤ N) = true := by simpa using hov
                have HO : Hid (decide (18446744073709551616 ≤ N * 10 + d) = true) := Lib.hid (by simp; omega)
                rw [hn, o1]
                clear hm hm2 hc hs hs2 hneg hD h95 hL hSm hQ hsum hov o1 hbig hn
                go_wp2_with (go_at_call 37; refine (hdg.out _).mono ?_; rintro e w4 ⟨rfl, rfl⟩)
                go_roundw
                case rel => exact ⟨k + 1, N * 10 + d, true, by omega, by go_num, by rw [HSU.out], by rw [HO.out], rfl, HM.out, by first | rfl | trivial⟩
                case measure => simp [intOf]; omega
              · have o1 : decide (18446744073709551616 ≤ N) = false := by simpa using hov
                have hob : decide (Q < n) = decide (18446744073709551616 ≤ N * 10 + d) := by
                  by_cases hq : 18446744073709551616 ≤ N * 10 + d
                  · have : Q < n := by omega
                    simp [hq, this]
                  · have : ¬ Q < n := by omega
                    simp [hq, this]
                obtain ⟨ob, hob2⟩ : ∃ ob, decide (18446744073709551616 ≤ N * 10 + d) = ob := ⟨_, rfl⟩
                rw [hob2] at hob
                have HO := Lib.hid hob2
                rw [hn, o1]
                clear hm hm2 hc hs hs2 hneg hD h95 hL hSm hQ hsum hov o1 hbig hn hob2
                go_wp2_with (go_at_call 37; refine (hdg.out _).mono ?_; rintro e w4 ⟨rfl, rfl⟩)
                go_roundw
                case rel => exact ⟨k + 1, N * 10 + d, true, by omega, by go_num, by rw [HSU.out], by rw [HO.out], rfl, HM.out, by first | rfl | trivial⟩
                case measure => simp [intOf]; omega
          · obtain rfl : k = l.length := by omega
            have hR0 : R = some (N, bt) := by rw [← hm]; simp [Ltr.mgo]
            have HR0 := Lib.hid hR0
            obtain ⟨n, hn⟩ : ∃ n, N % 18446744073709551616 = n := ⟨_, rfl⟩
            obtain ⟨o, ho⟩ : ∃ o, decide (18446744073709551616 ≤ N) = o := ⟨_, rfl⟩
            have HN := Lib.hid hn
            have HO := Lib.hid ho
            rw [hn, ho]
            clear hm hR0 hn ho
            go_wp2_with fail
            go_ret3
            exact ⟨by rw [HR0.out]; simp only [Ltr.magR]; rw [HN.out, HO.out]; rfl, rfl⟩
  · have g1 : decide ((2 : Int) < (l.length : Int)) = false := by simp; omega
    have HR : Hid (Ltr.mgo 10 (l.drop 0) 0 false = R) := Lib.hid (by
      have e : Ltr.hexed l = false := by unfold Ltr.hexed; simp; omega
      rw [← hR]; unfold Ltr.mag; rw [e]; rfl)
    clear hR
    go_enter Tryd.func27, Tryd.ntmps27
    go_wp2_with fail
    go_loopw [7, 8, 9, 10] (fun nv ov bv i wr => ∃ (k N : Nat) (bt : Bool), k ≤ l.length ∧ i = .int .i64 k ∧ nv = .int .u64 ((N % 18446744073709551616 : Nat) : Int) ∧ ov = .bool (decide (18446744073709551616 ≤ N)) ∧ bv = .bool bt ∧ Ltr.mgo 10 (l.drop k) N bt = R ∧ wr = w) (fun _ _ _ i _ => l.length - (intOf i).toNat)
    case atStart => exact ⟨0, 0, false, by omega, rfl, rfl, rfl, rfl, HR.out, rfl⟩
    case round =>
      obtain ⟨k, N, bt, hk, rfl, rfl, rfl, rfl, hm, rfl⟩ := hrel
      by_cases hkl : k < l.length
      · obtain ⟨c, hc⟩ : ∃ c, l[k] = c := ⟨_, rfl⟩
        have hb := lba_get l k hkl c hc
        have k0 : (0 : Int) ≤ (k : Int) := Int.natCast_nonneg _
        have k1 : (k : Int) < (l.length : Int) := by omega
        obtain ⟨n, hn⟩ : ∃ n, N % 18446744073709551616 = n := ⟨_, rfl⟩
        have hnl : n < 18446744073709551616 := by omega
        have hd95 : Hid (∀ W : World, Calls Tryd.prog 37 #[.int .u8 95] W fun e w' => e = .returned (.int .i64 (-1)) ∧ W = w') := Lib.hid (fun W => rdigit_any 95 W)
        by_cases hs : (c == 95) = true ∧ bt = true
        · obtain ⟨h95, rfl⟩ := hs
          have e95 : c = 95 := by simpa using h95
          subst e95
          have hm2 := (Ltr.mgo_skip (base := 10) (N := N) hkl hc h95).symm.trans hm
          have HM := Lib.hid hm2
          clear hm hm2 hc h95
          rw [hn]
          go_wp2_with (go_at_call 37; refine (hd95.out _).mono ?_; rintro e w4 ⟨rfl, rfl⟩)
          go_roundw
          case rel => exact ⟨k + 1, N, false, by omega, by go_num, by rw [hn], rfl, rfl, HM.out, by first | rfl | trivial⟩
          case measure => simp [intOf]; omega
        · have hs2 : ((c == 95) && bt) = false := by
            rcases hcc : (c == 95) with _ | _ <;> rcases bt with _ | _ <;> simp_all
          by_cases h95 : c = 95
          · subst h95
            have hbt : bt = false := by simpa using hs2
            subst hbt
            have hR0 : R = none := (Ltr.mgo_bad (base := 10) (N := N) hkl hc hs2 (by left; decide)).symm.trans hm |>.symm
            have HR0 := Lib.hid hR0
            clear hm hc hs hs2 hR0
            rw [hn]
            go_wp2_with (go_at_call 37; refine (hd95.out _).mono ?_; rintro e w4 ⟨rfl, rfl⟩)
            go_ret3
            exact ⟨by rw [HR0.out]; rfl, rfl⟩
          have n95 := lcne c 95 (by omega) h95
          simp only [Int.cast_ofNat_Int] at n95
          have hdl := Ltr.dig_le c
          obtain ⟨D, hD⟩ : ∃ D, Ltr.dig c = D := ⟨_, rfl⟩
          have hdg : Hid (∀ W : World, Calls Tryd.prog 37 #[.int .u8 (c.toNat : Int)] W fun e w' => e = .returned (.int .i64 D) ∧ W = w') := Lib.hid (fun W => by have := rdigit_any c W; rw [hD] at this; exact this)
          rw [hD] at hdl
          by_cases hneg : D < 0
          · have hR0 : R = none := (Ltr.mgo_bad (base := 10) (N := N) hkl hc hs2 (by left; rw [hD]; exact hneg)).symm.trans hm |>.symm
            have HR0 := Lib.hid hR0
            have d1 : decide (D < 0) = true := by simpa using hneg
            clear hm hc hs hs2 hR0 hneg hD h95
            rw [hn]
            go_wp2_with (go_at_call 37; refine (hdg.out _).mono ?_; rintro e w4 ⟨rfl, rfl⟩)
            go_ret3
            exact ⟨by rw [HR0.out]; rfl, rfl⟩
          have d1 : decide (D < 0) = false := by simpa using hneg
          obtain ⟨d, hd⟩ : ∃ d : Nat, D = (d : Int) := ⟨D.toNat, by omega⟩
          subst hd
          have u1 : IntKind.u64.wrap (d : Int) = (d : Int) := by rw [IntKind.wrap_u64]; omega
          by_cases hbig : 10 ≤ d
          · have hR0 : R = none := (Ltr.mgo_bad (base := 10) (N := N) hkl hc hs2 (by right; rw [hD]; omega)).symm.trans hm |>.symm
            have HR0 := Lib.hid hR0
            have d2 : decide ((10 : Int) ≤ (d : Int)) = true := by simp; omega
            clear hm hc hs hs2 hR0 hneg hD h95
            rw [hn]
            go_wp2_with (go_at_call 37; refine (hdg.out _).mono ?_; rintro e w4 ⟨rfl, rfl⟩)
            go_ret3
            exact ⟨by rw [HR0.out]; rfl, rfl⟩
          have d2 : decide ((10 : Int) ≤ (d : Int)) = false := by simp; omega
          have hm2 := (Ltr.mgo_dig (base := 10) (N := N) hkl hc hs2 d hD (by omega)).symm.trans hm
          obtain ⟨L, hL⟩ : ∃ L, n * 10 % 18446744073709551616 = L := ⟨_, rfl⟩
          obtain ⟨Sm, hSm⟩ : ∃ Sm, (L + d) % 18446744073709551616 = Sm := ⟨_, rfl⟩
          obtain ⟨Q, hQ⟩ : ∃ Q, (18446744073709551615 - d) / 10 = Q := ⟨_, rfl⟩
          have m1 : IntKind.u64.wrap ((n : Int) * 10) = (L : Int) := by rw [IntKind.wrap_u64]; omega
          have m2 : IntKind.u64.wrap ((L : Int) + (d : Int)) = (Sm : Int) := by rw [IntKind.wrap_u64]; omega
          have m3 : IntKind.u64.wrap (18446744073709551615 - (d : Int)) = 18446744073709551615 - (d : Int) := by rw [IntKind.wrap_u64]; omega
          have m4 : (18446744073709551615 - (d : Int)).tdiv 10 = (Q : Int) := by rw [Int.tdiv_eq_ediv_of_nonneg (by omega)]; omega
          have m5 : IntKind.u64.wrap (Q : Int) = (Q : Int) := by rw [IntKind.wrap_u64]; omega
          have hsum : (N * 10 + d) % 18446744073709551616 = Sm := by omega
          have HM := Lib.hid hm2
          have HSU := Lib.hid hsum
          by_cases hov : 18446744073709551616 ≤ N
          · have o1 : decide (18446744073709551616 ≤ N) = true := by simpa using hov
            have HO : Hid (decide (18446744073709551616 ≤ N * 10 + d) = true) := Lib.hid (by simp; omega)
            rw [hn, o1]
            clear hm hm2 hc hs hs2 hneg hD h95 hL hSm hQ hsum hov o1 hbig hn
            go_wp2_with (go_at_call 37; refine (hdg.out _).mono ?_; rintro e w4 ⟨rfl, rfl⟩)
            go_roundw
            case rel => exact ⟨k + 1, N * 10 + d, true, by omega, by go_num, by rw [HSU.out], by rw [HO.out], rfl, HM.out, by first | rfl | trivial⟩
            case measure => simp [intOf]; omega
          · have o1 : decide (18446744073709551616 ≤ N) = false := by simpa using hov
            have hob : decide (Q < n) = decide (18446744073709551616 ≤ N * 10 + d) := by
              by_cases hq : 18446744073709551616 ≤ N * 10 + d
              · have : Q < n := by omega
                simp [hq, this]
              · have : ¬ Q < n := by omega
                simp [hq, this]
            obtain ⟨ob, hob2⟩ : ∃ ob, decide (18446744073709551616 ≤ N * 10 + d) = ob := ⟨_, rfl⟩
            rw [hob2] at hob
            have HO := Lib.hid hob2
            rw [hn, o1]
            clear hm hm2 hc hs hs2 hneg hD h95 hL hSm hQ hsum hov o1 hbig hn hob2
            go_wp2_with (go_at_call 37; refine (hdg.out _).mono ?_; rintro e w4 ⟨rfl, rfl⟩)
            go_roundw
            case rel => exact ⟨k + 1, N * 10 + d, true, by omega, by go_num, by rw [HSU.out], by rw [HO.out], rfl, HM.out, by first | rfl | trivial⟩
            case measure => simp [intOf]; omega
      · obtain rfl : k = l.length := by omega
        have hR0 : R = some (N, bt) := by rw [← hm]; simp [Ltr.mgo]
        have HR0 := Lib.hid hR0
        obtain ⟨n, hn⟩ : ∃ n, N % 18446744073709551616 = n := ⟨_, rfl⟩
        obtain ⟨o, ho⟩ : ∃ o, decide (18446744073709551616 ≤ N) = o := ⟨_, rfl⟩
        have HN := Lib.hid hn
        have HO := Lib.hid ho
        rw [hn, ho]
        clear hm hR0 hn ho
        go_wp2_with fail
        go_ret3
        exact ⟨by rw [HR0.out]; simp only [Ltr.magR]; rw [HN.out, HO.out]; rfl, rfl⟩
end Go.Proofs.YtpmalmednkknpaaDoor
