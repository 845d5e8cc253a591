/-
  Identifiers: literal's sign and Name, the reference's Sign and Name.
  literal.magnitude at any string: digits, an underscore between them, decimal or hexadecimal; the number, whether it passes 64 bits, whether the syntax is right.
  literal.magnitude and literal.Nat at any string.
  literal.magnitude: hexadecimal digits.
  literal.Num at any string and width.
  The reference's Digit and Digits: the same plain functions.
  Num at any string and width: the program's and the reference's.
-/
import Derived.Test.YtadnfekogmjieaaGreatDoorGGA
import Derived.Test.YtadnfekogmjieaaGreatDoorGShelf
import Derived.Laws.Externs
import Derived.Deep.QuietTactic
import Derived.BigQuiet
set_option linter.unusedVariables false
namespace Go.Proofs.YtadnfekogmjieaaGreatDoor
open Go.RowKit
attribute [local go_sem] ByteArray.extract_mk

namespace Ltr
def sign (c : UInt8) : Bool := 32 < c.toNat && c.toNat < 127 && c != 40 && c != 41 && c != 34 && c != 59 && c != 44
def name (s : List UInt8) : Bool := decide (2 ≤ s.length) && s.head? == some 36 && s.all sign
end Ltr
theorem lcne (c : UInt8) (n : Nat) (hn : n < 256) (h : c ≠ UInt8.ofNat n) : ((c.toNat : Int) == (n : Int)) = false := by
  have : ¬ (c.toNat : Int) = (n : Int) := by
    intro e
    apply h
    have e2 : c.toNat = n := by omega
    rw [← e2]
    simp
  simpa using this
theorem lba_get (l : List UInt8) (k : Nat) (h : k < l.length) (c : UInt8) (hc : l[k] = c) : (ByteArray.mk l.toArray)[k]'(by show k < l.toArray.size; simpa using h) = c := by rw [← hc]; rfl

end Go.Proofs.YtadnfekogmjieaaGreatDoor
set_option linter.unusedVariables false
namespace Go.Proofs.YtadnfekogmjieaaGreatDoor
open Go.RowKit
attribute [local go_sem] ByteArray.extract_mk

namespace Ltr
def dig (c : UInt8) : Int := if 48 ≤ c.toNat ∧ c.toNat ≤ 57 then (c.toNat : Int) - 48 else if 97 ≤ c.toNat ∧ c.toNat ≤ 102 then (c.toNat : Int) - 87 else if 65 ≤ c.toNat ∧ c.toNat ≤ 70 then (c.toNat : Int) - 55 else -1
def mgo (base : Nat) : List UInt8 → Nat → Bool → Option (Nat × Bool)
  | [], N, b => some (N, b)
  | c :: r, N, b => if (c == 95) && b then mgo base r N false else if dig c < 0 ∨ (base : Int) ≤ dig c then none else mgo base r (N * base + (dig c).toNat) true
def hexed (s : List UInt8) : Bool := decide (2 < s.length) && (s.take 2 == [48, 120])
def mag (s : List UInt8) : Option (Nat × Bool) := if hexed s then mgo 16 (s.drop 2) 0 false else mgo 10 s 0 false
def magR (o : Option (Nat × Bool)) : Nat × Bool × Bool := match o with | none => (0, false, false) | some x => (x.1 % 18446744073709551616, decide (18446744073709551616 ≤ x.1), x.2)
theorem dig_le (c : UInt8) : -1 ≤ dig c ∧ dig c ≤ 15 := by
  unfold dig
  split
  · omega
  · split
    · omega
    · split <;> omega
end Ltr

theorem add64_any (x y : Nat) (w : World) : (callFunc 179 #[.int .u64 (x : Int), .int .u64 (y : Int), .int .u64 0]).run Tryz.prog w =
    .ok (.value (.tuple #[.int .u64 (((x + y) % 18446744073709551616 : Nat) : Int), .int .u64 (((x + y) / 18446744073709551616 : Nat) : Int)])) w := by
  rw [run_callFunc_extern Tryz.func179 (by kernel_rfl) (by kernel_rfl) (by kernel_rfl) (e := add64Entry) (by kernel_rfl), run_add64 x y 0 (by omega) (by omega) (by omega) (by omega)]
  simp only [Result.andThen]
  congr 5 <;> omega

set_option maxHeartbeats 1000000 in
set_option maxRecDepth 100000 in
theorem ldigit_any (c : UInt8) (w : World) : Calls Tryz.prog 177 #[.int .u8 (c.toNat : Int)] w fun e w' => e = .returned (.int .i64 (Ltr.dig c)) ∧ w = w' := by
  have hc := c.toNat_lt
  unfold Ltr.dig
  obtain ⟨n, hn⟩ : ∃ n : Int, (c.toNat : Int) = n := ⟨_, rfl⟩
  by_cases h1 : 48 ≤ c.toNat ∧ c.toNat ≤ 57
  · rw [if_pos h1, hn]
    have a1 : decide (48 ≤ n) = true := by simp; omega
    have a2 : decide (n ≤ 57) = true := by simp; omega
    have w1 : IntKind.u8.wrap (n - 48) = n - 48 := by rw [IntKind.wrap_u8]; omega
    have w2 : IntKind.i64.wrap (n - 48) = n - 48 := by rw [IntKind.wrap_i64]; omega
    clear hn h1
    go_enter Tryz.func177, Tryz.ntmps177
    go_wp2
    go_ret
    exact ⟨rfl, rfl⟩
  · rw [if_neg h1]
    have hA : (decide (48 ≤ n) = false) ∨ (decide (48 ≤ n) = true ∧ decide (n ≤ 57) = false) := by
      by_cases h : 48 ≤ n
      · exact .inr ⟨by simpa using h, by simp; omega⟩
      · exact .inl (by simpa using h)
    by_cases h2 : 97 ≤ c.toNat ∧ c.toNat ≤ 102
    · rw [if_pos h2, hn]
      have a1 : decide (97 ≤ n) = true := by simp; omega
      have a2 : decide (n ≤ 102) = true := by simp; omega
      have w1 : IntKind.u8.wrap (n - 97) = n - 97 := by rw [IntKind.wrap_u8]; omega
      have w2 : IntKind.i64.wrap (n - 97) = n - 97 := by rw [IntKind.wrap_i64]; omega
      have w3 : IntKind.i64.wrap (n - 97 + 10) = n - 87 := by rw [IntKind.wrap_i64]; omega
      clear hn h1 h2
      rcases hA with hA | ⟨hA, hA2⟩
      all_goals
        go_enter Tryz.func177, Tryz.ntmps177
        go_wp2
        go_ret
        exact ⟨rfl, rfl⟩
    · rw [if_neg h2]
      have hB : (decide (97 ≤ n) = false) ∨ (decide (97 ≤ n) = true ∧ decide (n ≤ 102) = false) := by
        by_cases h : 97 ≤ n
        · exact .inr ⟨by simpa using h, by simp; omega⟩
        · exact .inl (by simpa using h)
      by_cases h3 : 65 ≤ c.toNat ∧ c.toNat ≤ 70
      · rw [if_pos h3, hn]
        have a1 : decide (65 ≤ n) = true := by simp; omega
        have a2 : decide (n ≤ 70) = true := by simp; omega
        have w1 : IntKind.u8.wrap (n - 65) = n - 65 := by rw [IntKind.wrap_u8]; omega
        have w2 : IntKind.i64.wrap (n - 65) = n - 65 := by rw [IntKind.wrap_i64]; omega
        have w3 : IntKind.i64.wrap (n - 65 + 10) = n - 55 := by rw [IntKind.wrap_i64]; omega
        clear hn h1 h2 h3
        rcases hA with hA | ⟨hA, hA2⟩ <;> rcases hB with hB | ⟨hB, hB2⟩
        all_goals
          go_enter Tryz.func177, Tryz.ntmps177
          go_wp2
          go_ret
          exact ⟨rfl, rfl⟩
      · rw [if_neg h3, hn]
        have hC : (decide (65 ≤ n) = false) ∨ (decide (65 ≤ n) = true ∧ decide (n ≤ 70) = false) := by
          by_cases h : 65 ≤ n
          · exact .inr ⟨by simpa using h, by simp; omega⟩
          · exact .inl (by simpa using h)
        clear hn h1 h2 h3
        rcases hA with hA | ⟨hA, hA2⟩ <;> rcases hB with hB | ⟨hB, hB2⟩ <;> rcases hC with hC | ⟨hC, hC2⟩
        all_goals
          go_enter Tryz.func177, Tryz.ntmps177
          go_wp2
          go_ret
          exact ⟨rfl, rfl⟩
end Go.Proofs.YtadnfekogmjieaaGreatDoor
set_option linter.unusedVariables false
namespace Go.Proofs.YtadnfekogmjieaaGreatDoor
open Go.RowKit
attribute [local go_sem] ByteArray.extract_mk

namespace Ltr
theorem mgo_skip {base : Nat} {r : List UInt8} {k N : Nat} {c : UInt8} (hk : k < r.length) (hc : r[k] = c) (h : (c == 95) = true) : mgo base (r.drop k) N true = mgo base (r.drop (k + 1)) N false := by
  rw [List.drop_eq_getElem_cons hk, hc, mgo, h]; rfl
theorem mgo_bad {base : Nat} {r : List UInt8} {k N : Nat} {b : Bool} {c : UInt8} (hk : k < r.length) (hc : r[k] = c) (h : ((c == 95) && b) = false) (hd : dig c < 0 ∨ (base : Int) ≤ dig c) : mgo base (r.drop k) N b = none := by
  rw [List.drop_eq_getElem_cons hk, hc, mgo, h, if_neg (by decide), if_pos hd]
theorem mgo_dig {base : Nat} {r : List UInt8} {k N : Nat} {b : Bool} {c : UInt8} (hk : k < r.length) (hc : r[k] = c) (h : ((c == 95) && b) = false) (d : Nat) (hd : dig c = (d : Int)) (hb : d < base) : mgo base (r.drop k) N b = mgo base (r.drop (k + 1)) (N * base + d) true := by
  rw [List.drop_eq_getElem_cons hk, hc, mgo, h, if_neg (by decide), if_neg (by rw [hd]; omega), hd]
  rfl
end Ltr

theorem mul64_at (n b : Nat) (w : World) (hn : n < 18446744073709551616) (hb : b = 10 ∨ b = 16) (H L : Nat) (hH : n * b / 18446744073709551616 = H) (hL : n * b % 18446744073709551616 = L) :
    Calls Tryz.prog 178 #[.int .u64 (n : Int), .int .u64 (b : Int)] w fun e w' => e = .returned (.tuple #[.int .u64 (H : Int), .int .u64 (L : Int)]) ∧ w = w' := by
  refine (Tryz.bits_Mul64 n b hn (by omega) w).mono ?_
  rintro e w' ⟨rfl, rfl⟩
  rw [hH, hL]
  exact ⟨rfl, rfl⟩

set_option maxHeartbeats 2000000 in
set_option maxRecDepth 100000 in
theorem mag10_any (l : List UInt8) (w : World) (hl : l.length ≤ 1000000) (hx : Ltr.hexed l = false) : Calls Tryz.prog 135 #[.string ⟨l.toArray⟩] w fun e w' =>
    e = .returned (.tuple #[.int .u64 ((Ltr.magR (Ltr.mgo 10 l 0 false)).1 : Int), .bool (Ltr.magR (Ltr.mgo 10 l 0 false)).2.1, .bool (Ltr.magR (Ltr.mgo 10 l 0 false)).2.2]) ∧ w = w' := by
  have hway : (decide ((2 : Int) < (l.length : Int)) = false) ∨ (decide ((2 : Int) < (l.length : Int)) = true ∧ (l.take 2 == [48, 120]) = false ∧ (2 : Int) ≤ (l.length : Int)) := by
    unfold Ltr.hexed at hx
    by_cases h : 2 < l.length
    · have hd : decide (2 < l.length) = true := by simpa using h
      rw [hd] at hx
      exact .inr ⟨by simp; omega, by simpa using hx, by omega⟩
    · exact .inl (by simp; omega)
  obtain ⟨R, hR⟩ : ∃ R, Ltr.mgo 10 l 0 false = R := ⟨_, rfl⟩
  have HR := Lib.hid hR
  rw [hR]
  clear hR hx
  rcases hway with g1 | ⟨g1, g2, g3⟩
  all_goals
    go_enter Tryz.func135, Tryz.ntmps135
    go_wp2_with fail
    go_loopw [6, 7, 8, 27] (fun nv ov bv i wr => ∃ (k N : Nat) (bt : Bool), k ≤ l.length ∧ i = .int .i64 k ∧ nv = .int .u64 ((N % 18446744073709551616 : Nat) : Int) ∧ ov = .bool (decide (18446744073709551616 ≤ N)) ∧ bv = .bool bt ∧ Ltr.mgo 10 (l.drop k) N bt = R ∧ wr = w) (fun _ _ _ i _ => l.length - (intOf i).toNat)
    case atStart => exact ⟨0, 0, false, by omega, rfl, rfl, rfl, rfl, by simpa using HR.out, rfl⟩
    case round =>
      obtain ⟨k, N, bt, hk, rfl, rfl, rfl, rfl, hm, rfl⟩ := hrel
      by_cases hkl : k < l.length
      · obtain ⟨c, hc⟩ : ∃ c, l[k] = c := ⟨_, rfl⟩
        have hb := lba_get l k hkl c hc
        have k0 : (0 : Int) ≤ (k : Int) := Int.natCast_nonneg _
        have k1 : (k : Int) < (l.length : Int) := by omega
        obtain ⟨n, hn⟩ : ∃ n, N % 18446744073709551616 = n := ⟨_, rfl⟩
        have hnl : n < 18446744073709551616 := by omega
        by_cases hs : (c == 95) = true ∧ bt = true
        · obtain ⟨h95, rfl⟩ := hs
          have e95 : c = 95 := by simpa using h95
          subst e95
          have hm2 := (Ltr.mgo_skip (base := 10) (N := N) hkl hc h95).symm.trans hm
          have HM := Lib.hid hm2
          clear hm hm2 hc h95
          rw [hn]
          go_wp2_with fail
          go_roundw
          case rel => exact ⟨k + 1, N, false, by omega, by go_num, by rw [hn], rfl, rfl, HM.out, by first | rfl | trivial⟩
          case measure => simp [intOf]; omega
        · have hs2 : ((c == 95) && bt) = false := by
            rcases hcc : (c == 95) with _ | _ <;> rcases bt with _ | _ <;> simp_all
          by_cases h95 : c = 95
          · subst h95
            have hbt : bt = false := by simpa using hs2
            subst hbt
            have hR0 : R = none := (Ltr.mgo_bad (base := 10) (N := N) hkl hc hs2 (by left; decide)).symm.trans hm |>.symm
            have HR0 := Lib.hid hR0
            have hdg : Hid (∀ W : World, Calls Tryz.prog 177 #[.int .u8 95] W fun e w' => e = .returned (.int .i64 (-1)) ∧ W = w') := Lib.hid (fun W => ldigit_any 95 W)
            clear hm hc hs hs2 hR0
            rw [hn]
            go_wp2_with (go_at_call 177; refine (hdg.out _).mono ?_; rintro e w4 ⟨rfl, rfl⟩)
            go_ret3
            exact ⟨by rw [HR0.out]; rfl, rfl⟩
          have n95 := lcne c 95 (by omega) h95
          simp only [Int.cast_ofNat_Int] at n95
          have hdl := Ltr.dig_le c
          obtain ⟨D, hD⟩ : ∃ D, Ltr.dig c = D := ⟨_, rfl⟩
          have hdg : Hid (∀ W : World, Calls Tryz.prog 177 #[.int .u8 (c.toNat : Int)] W fun e w' => e = .returned (.int .i64 D) ∧ W = w') := Lib.hid (fun W => by have := ldigit_any c W; rw [hD] at this; exact this)
          rw [hD] at hdl
          by_cases hneg : D < 0
          · have hR0 : R = none := (Ltr.mgo_bad (base := 10) (N := N) hkl hc hs2 (by left; rw [hD]; exact hneg)).symm.trans hm |>.symm
            have HR0 := Lib.hid hR0
            have d1 : decide (D < 0) = true := by simpa using hneg
            clear hm hc hs hs2 hR0 hneg hD h95
            rw [hn]
            go_wp2_with (go_at_call 177; refine (hdg.out _).mono ?_; rintro e w4 ⟨rfl, rfl⟩)
            go_ret3
            exact ⟨by rw [HR0.out]; rfl, rfl⟩
          have d1 : decide (D < 0) = false := by simpa using hneg
          obtain ⟨d, hd⟩ : ∃ d : Nat, D = (d : Int) := ⟨D.toNat, by omega⟩
          subst hd
          have u1 : IntKind.u64.wrap (d : Int) = (d : Int) := by rw [IntKind.wrap_u64]; omega
          by_cases hbig : 10 ≤ d
          · have hR0 : R = none := (Ltr.mgo_bad (base := 10) (N := N) hkl hc hs2 (by right; rw [hD]; omega)).symm.trans hm |>.symm
            have HR0 := Lib.hid hR0
            have d2 : decide ((10 : Int) ≤ (d : Int)) = true := by simp; omega
            clear hm hc hs hs2 hR0 hneg hD h95
            rw [hn]
            go_wp2_with (go_at_call 177; refine (hdg.out _).mono ?_; rintro e w4 ⟨rfl, rfl⟩)
            go_ret3
            exact ⟨by rw [HR0.out]; rfl, rfl⟩
          have d2 : decide ((10 : Int) ≤ (d : Int)) = false := by simp; omega
          have hm2 := (Ltr.mgo_dig (base := 10) (N := N) hkl hc hs2 d hD (by omega)).symm.trans hm
          obtain ⟨H, hH⟩ : ∃ H, n * 10 / 18446744073709551616 = H := ⟨_, rfl⟩
          obtain ⟨L, hL⟩ : ∃ L, n * 10 % 18446744073709551616 = L := ⟨_, rfl⟩
          obtain ⟨Sm, hSm⟩ : ∃ Sm, (L + d) % 18446744073709551616 = Sm := ⟨_, rfl⟩
          obtain ⟨C, hC⟩ : ∃ C, (L + d) / 18446744073709551616 = C := ⟨_, rfl⟩
          have hadd := add64_any L d
          rw [hSm, hC] at hadd
          have hmul : Hid (∀ W : World, Calls Tryz.prog 178 #[.int .u64 (n : Int), .int .u64 10] W fun e w' => e = .returned (.tuple #[.int .u64 (H : Int), .int .u64 (L : Int)]) ∧ W = w') := Lib.hid (fun W => mul64_at n 10 W hnl (.inl rfl) H L hH hL)
          have hsum : (N * 10 + d) % 18446744073709551616 = Sm := by omega
          have hHC : IntKind.u64.wrap ((H : Int) + (C : Int)) = (H : Int) + (C : Int) := by rw [IntKind.wrap_u64]; omega
          have HM := Lib.hid hm2
          have HSU := Lib.hid hsum
          by_cases hov : 18446744073709551616 ≤ N
          · have o1 : decide (18446744073709551616 ≤ N) = true := by simpa using hov
            have HO : Hid (decide (18446744073709551616 ≤ N * 10 + d) = true) := Lib.hid (by simp; omega)
            rw [hn, o1]
            clear hm hm2 hc hs hs2 hneg hD h95 hH hL hSm hC hsum hov o1 hbig hn
            go_wp2_with (first
              | (go_at_call 177; refine (hdg.out _).mono ?_; rintro e w4 ⟨rfl, rfl⟩)
              | (go_at_call 178; refine (hmul.out _).mono ?_; rintro e w4 ⟨rfl, rfl⟩))
            go_roundw
            case rel => exact ⟨k + 1, N * 10 + d, true, by omega, by go_num, by rw [HSU.out], by rw [HO.out], rfl, HM.out, by first | rfl | trivial⟩
            case measure => simp [intOf]; omega
          · have o1 : decide (18446744073709551616 ≤ N) = false := by simpa using hov
            have hHCz : ((H : Int) + (C : Int) != 0) = decide (18446744073709551616 ≤ N * 10 + d) := by
              have e : H + C = (N * 10 + d) / 18446744073709551616 := by omega
              by_cases hq : 18446744073709551616 ≤ N * 10 + d
              · have : ¬ ((H : Int) + (C : Int) = 0) := by omega
                simp [bne, hq, this]
              · have : (H : Int) + (C : Int) = 0 := by omega
                simp [bne, hq, this]
            obtain ⟨ob, hob⟩ : ∃ ob, decide (18446744073709551616 ≤ N * 10 + d) = ob := ⟨_, rfl⟩
            rw [hob] at hHCz
            have HO := Lib.hid hob
            rw [hn, o1]
            clear hm hm2 hc hs hs2 hneg hD h95 hH hL hSm hC hsum hov o1 hbig hn hob
            go_wp2_with (first
              | (go_at_call 177; refine (hdg.out _).mono ?_; rintro e w4 ⟨rfl, rfl⟩)
              | (go_at_call 178; refine (hmul.out _).mono ?_; rintro e w4 ⟨rfl, rfl⟩))
            go_roundw
            case rel => exact ⟨k + 1, N * 10 + d, true, by omega, by go_num, by rw [HSU.out], by rw [HO.out], rfl, HM.out, by first | rfl | trivial⟩
            case measure => simp [intOf]; omega
      · obtain rfl : k = l.length := by omega
        have hR0 : R = some (N, bt) := by rw [← hm]; simp [Ltr.mgo]
        have HR0 := Lib.hid hR0
        obtain ⟨n, hn⟩ : ∃ n, N % 18446744073709551616 = n := ⟨_, rfl⟩
        obtain ⟨o, ho⟩ : ∃ o, decide (18446744073709551616 ≤ N) = o := ⟨_, rfl⟩
        have HN := Lib.hid hn
        have HO := Lib.hid ho
        rw [hn, ho]
        clear hm hR0 hn ho
        go_wp2_with fail
        go_ret3
        exact ⟨by rw [HR0.out]; simp only [Ltr.magR]; rw [HN.out, HO.out]; rfl, rfl⟩
end Go.Proofs.YtadnfekogmjieaaGreatDoor
set_option linter.unusedVariables false
namespace Go.Proofs.YtadnfekogmjieaaGreatDoor
open Go.RowKit
attribute [local go_sem] ByteArray.extract_mk

theorem hexed_form {l : List UInt8} (h : Ltr.hexed l = true) : ∃ r, l = 48 :: 120 :: r ∧ 0 < r.length := by
  unfold Ltr.hexed at h
  simp at h
  match l, h with
  | a :: b :: r, h =>
    simp at h
    obtain ⟨h1, rfl, rfl⟩ := h
    exact ⟨r, rfl, by omega⟩
  | [a], h => simp at h
  | [], h => simp at h

set_option maxHeartbeats 2000000 in
set_option maxRecDepth 100000 in
theorem mag16_any (l : List UInt8) (w : World) (hl : l.length ≤ 1000000) (h0 : 0 < l.length) : Calls Tryz.prog 135 #[.string ⟨(48 :: 120 :: l).toArray⟩] w fun e w' =>
    e = .returned (.tuple #[.int .u64 ((Ltr.magR (Ltr.mgo 16 l 0 false)).1 : Int), .bool (Ltr.magR (Ltr.mgo 16 l 0 false)).2.1, .bool (Ltr.magR (Ltr.mgo 16 l 0 false)).2.2]) ∧ w.drew = w' := by
  obtain ⟨R, hR⟩ : ∃ R, Ltr.mgo 16 l 0 false = R := ⟨_, rfl⟩
  have HR := Lib.hid hR
  rw [hR]
  clear hR
  obtain ⟨s, hs⟩ : ∃ s, 48 :: 120 :: l = s := ⟨_, rfl⟩
  have g1 : decide ((2 : Int) < (s.length : Int)) = true := by rw [← hs]; simp; omega
  have g2 : (s.take 2 == [48, 120]) = true := by rw [← hs]; rfl
  have g3 : (2 : Int) ≤ (s.length : Int) := by rw [← hs]; simp; omega
  have g4 : List.take (s.length - 2) (s.drop 2) = l := by rw [← hs]; simp
  rw [hs]
  clear hs
  go_enter Tryz.func135, Tryz.ntmps135
  go_wp2_with fail
  go_region
  clear g1 g2 g3 g4
  go_wp2_with fail
  go_loopw [6, 7, 8, 27] (fun nv ov bv i wr => ∃ (k N : Nat) (bt : Bool), k ≤ l.length ∧ i = .int .i64 k ∧ nv = .int .u64 ((N % 18446744073709551616 : Nat) : Int) ∧ ov = .bool (decide (18446744073709551616 ≤ N)) ∧ bv = .bool bt ∧ Ltr.mgo 16 (l.drop k) N bt = R ∧ wr = w.drew) (fun _ _ _ i _ => l.length - (intOf i).toNat)
  case atStart => exact ⟨0, 0, false, by omega, rfl, rfl, rfl, rfl, by simpa using HR.out, rfl⟩
  case round =>
    obtain ⟨k, N, bt, hk, rfl, rfl, rfl, rfl, hm, rfl⟩ := hrel
    by_cases hkl : k < l.length
    · obtain ⟨c, hc⟩ : ∃ c, l[k] = c := ⟨_, rfl⟩
      have hb := lba_get l k hkl c hc
      have k0 : (0 : Int) ≤ (k : Int) := Int.natCast_nonneg _
      have k1 : (k : Int) < (l.length : Int) := by omega
      obtain ⟨n, hn⟩ : ∃ n, N % 18446744073709551616 = n := ⟨_, rfl⟩
      have hnl : n < 18446744073709551616 := by omega
      by_cases hs : (c == 95) = true ∧ bt = true
      · obtain ⟨h95, rfl⟩ := hs
        have e95 : c = 95 := by simpa using h95
        subst e95
        have hm2 := (Ltr.mgo_skip (base := 16) (N := N) hkl hc h95).symm.trans hm
        have HM := Lib.hid hm2
        clear hm hm2 hc h95
        rw [hn]
        go_wp2_with fail
        go_roundw
        case rel => exact ⟨k + 1, N, false, by omega, by go_num, by rw [hn], rfl, rfl, HM.out, by first | rfl | trivial⟩
        case measure => simp [intOf]; omega
      · have hs2 : ((c == 95) && bt) = false := by
          rcases hcc : (c == 95) with _ | _ <;> rcases bt with _ | _ <;> simp_all
        by_cases h95 : c = 95
        · subst h95
          have hbt : bt = false := by simpa using hs2
          subst hbt
          have hR0 : R = none := (Ltr.mgo_bad (base := 16) (N := N) hkl hc hs2 (by left; decide)).symm.trans hm |>.symm
          have HR0 := Lib.hid hR0
          have hdg : Hid (∀ W : World, Calls Tryz.prog 177 #[.int .u8 95] W fun e w' => e = .returned (.int .i64 (-1)) ∧ W = w') := Lib.hid (fun W => ldigit_any 95 W)
          clear hm hc hs hs2 hR0
          rw [hn]
          go_wp2_with (go_at_call 177; refine (hdg.out _).mono ?_; rintro e w4 ⟨rfl, rfl⟩)
          go_ret3
          exact ⟨by rw [HR0.out]; rfl, rfl⟩
        have n95 := lcne c 95 (by omega) h95
        simp only [Int.cast_ofNat_Int] at n95
        have hdl := Ltr.dig_le c
        obtain ⟨D, hD⟩ : ∃ D, Ltr.dig c = D := ⟨_, rfl⟩
        have hdg : Hid (∀ W : World, Calls Tryz.prog 177 #[.int .u8 (c.toNat : Int)] W fun e w' => e = .returned (.int .i64 D) ∧ W = w') := Lib.hid (fun W => by have := ldigit_any c W; rw [hD] at this; exact this)
        rw [hD] at hdl
        by_cases hneg : D < 0
        · have hR0 : R = none := (Ltr.mgo_bad (base := 16) (N := N) hkl hc hs2 (by left; rw [hD]; exact hneg)).symm.trans hm |>.symm
          have HR0 := Lib.hid hR0
          have d1 : decide (D < 0) = true := by simpa using hneg
          clear hm hc hs hs2 hR0 hneg hD h95
          rw [hn]
          go_wp2_with (go_at_call 177; refine (hdg.out _).mono ?_; rintro e w4 ⟨rfl, rfl⟩)
          go_ret3
          exact ⟨by rw [HR0.out]; rfl, rfl⟩
        have d1 : decide (D < 0) = false := by simpa using hneg
        obtain ⟨d, hd⟩ : ∃ d : Nat, D = (d : Int) := ⟨D.toNat, by omega⟩
        subst hd
        have u1 : IntKind.u64.wrap (d : Int) = (d : Int) := by rw [IntKind.wrap_u64]; omega
        by_cases hbig : 16 ≤ d
        · have hR0 : R = none := (Ltr.mgo_bad (base := 16) (N := N) hkl hc hs2 (by right; rw [hD]; omega)).symm.trans hm |>.symm
          have HR0 := Lib.hid hR0
          have d2 : decide ((16 : Int) ≤ (d : Int)) = true := by simp; omega
          clear hm hc hs hs2 hR0 hneg hD h95
          rw [hn]
          go_wp2_with (go_at_call 177; refine (hdg.out _).mono ?_; rintro e w4 ⟨rfl, rfl⟩)
          go_ret3
          exact ⟨by rw [HR0.out]; rfl, rfl⟩
        have d2 : decide ((16 : Int) ≤ (d : Int)) = false := by simp; omega
        have hm2 := (Ltr.mgo_dig (base := 16) (N := N) hkl hc hs2 d hD (by omega)).symm.trans hm
        obtain ⟨H, hH⟩ : ∃ H, n * 16 / 18446744073709551616 = H := ⟨_, rfl⟩
        obtain ⟨L, hL⟩ : ∃ L, n * 16 % 18446744073709551616 = L := ⟨_, rfl⟩
        obtain ⟨Sm, hSm⟩ : ∃ Sm, (L + d) % 18446744073709551616 = Sm := ⟨_, rfl⟩
        obtain ⟨C, hC⟩ : ∃ C, (L + d) / 18446744073709551616 = C := ⟨_, rfl⟩
        have hadd := add64_any L d
        rw [hSm, hC] at hadd
        have hmul : Hid (∀ W : World, Calls Tryz.prog 178 #[.int .u64 (n : Int), .int .u64 16] W fun e w' => e = .returned (.tuple #[.int .u64 (H : Int), .int .u64 (L : Int)]) ∧ W = w') := Lib.hid (fun W => mul64_at n 16 W hnl (.inr rfl) H L hH hL)
        have hsum : (N * 16 + d) % 18446744073709551616 = Sm := by omega
        have hHC : IntKind.u64.wrap ((H : Int) + (C : Int)) = (H : Int) + (C : Int) := by rw [IntKind.wrap_u64]; omega
        have HM := Lib.hid hm2
        have HSU := Lib.hid hsum
        by_cases hov : 18446744073709551616 ≤ N
        · have o1 : decide (18446744073709551616 ≤ N) = true := by simpa using hov
          have HO : Hid (decide (18446744073709551616 ≤ N * 16 + d) = true) := Lib.hid (by simp; omega)
          rw [hn, o1]
          clear hm hm2 hc hs hs2 hneg hD h95 hH hL hSm hC hsum hov o1 hbig hn
          go_wp2_with (first
            | (go_at_call 177; refine (hdg.out _).mono ?_; rintro e w4 ⟨rfl, rfl⟩)
            | (go_at_call 178; refine (hmul.out _).mono ?_; rintro e w4 ⟨rfl, rfl⟩))
          go_roundw
          case rel => exact ⟨k + 1, N * 16 + d, true, by omega, by go_num, by rw [HSU.out], by rw [HO.out], rfl, HM.out, by first | rfl | trivial⟩
          case measure => simp [intOf]; omega
        · have o1 : decide (18446744073709551616 ≤ N) = false := by simpa using hov
          have hHCz : ((H : Int) + (C : Int) != 0) = decide (18446744073709551616 ≤ N * 16 + d) := by
            have e : H + C = (N * 16 + d) / 18446744073709551616 := by omega
            by_cases hq : 18446744073709551616 ≤ N * 16 + d
            · have : ¬ ((H : Int) + (C : Int) = 0) := by omega
              simp [bne, hq, this]
            · have : (H : Int) + (C : Int) = 0 := by omega
              simp [bne, hq, this]
          obtain ⟨ob, hob⟩ : ∃ ob, decide (18446744073709551616 ≤ N * 16 + d) = ob := ⟨_, rfl⟩
          rw [hob] at hHCz
          have HO := Lib.hid hob
          rw [hn, o1]
          clear hm hm2 hc hs hs2 hneg hD h95 hH hL hSm hC hsum hov o1 hbig hn hob
          go_wp2_with (first
            | (go_at_call 177; refine (hdg.out _).mono ?_; rintro e w4 ⟨rfl, rfl⟩)
            | (go_at_call 178; refine (hmul.out _).mono ?_; rintro e w4 ⟨rfl, rfl⟩))
          go_roundw
          case rel => exact ⟨k + 1, N * 16 + d, true, by omega, by go_num, by rw [HSU.out], by rw [HO.out], rfl, HM.out, by first | rfl | trivial⟩
          case measure => simp [intOf]; omega
    · obtain rfl : k = l.length := by omega
      have hR0 : R = some (N, bt) := by rw [← hm]; simp [Ltr.mgo]
      have HR0 := Lib.hid hR0
      obtain ⟨n, hn⟩ : ∃ n, N % 18446744073709551616 = n := ⟨_, rfl⟩
      obtain ⟨o, ho⟩ : ∃ o, decide (18446744073709551616 ≤ N) = o := ⟨_, rfl⟩
      have HN := Lib.hid hn
      have HO := Lib.hid ho
      rw [hn, ho]
      clear hm hR0 hn ho
      go_wp2_with fail
      go_ret3
      exact ⟨by rw [HR0.out]; simp only [Ltr.magR]; rw [HN.out, HO.out]; rfl, rfl⟩

theorem mag_any (l : List UInt8) (w : World) (hl : l.length ≤ 1000000) : Calls Tryz.prog 135 #[.string ⟨l.toArray⟩] w fun e w' =>
    e = .returned (.tuple #[.int .u64 ((Ltr.magR (Ltr.mag l)).1 : Int), .bool (Ltr.magR (Ltr.mag l)).2.1, .bool (Ltr.magR (Ltr.mag l)).2.2]) ∧ ∃ q, w' = w.drewN q := by
  cases hx : Ltr.hexed l with
  | false =>
    have e : Ltr.mag l = Ltr.mgo 10 l 0 false := by unfold Ltr.mag; rw [hx]; rfl
    rw [e]
    refine (mag10_any l w hl hx).mono ?_
    rintro e w' ⟨rfl, rfl⟩
    exact ⟨rfl, 0, rfl⟩
  | true =>
    obtain ⟨r, rfl, h0⟩ := hexed_form hx
    have e : Ltr.mag (48 :: 120 :: r) = Ltr.mgo 16 r 0 false := by unfold Ltr.mag; rw [hx]; rfl
    rw [e]
    refine (mag16_any r w (by simp at hl; omega) h0).mono ?_
    rintro e w' ⟨rfl, rfl⟩
    exact ⟨rfl, 1, rfl⟩

namespace Ltr
def natF (l : List UInt8) (most : Int) : Int × Int :=
  if (magR (mag l)).2.2 = false then (0, 4) else if (magR (mag l)).2.1 = true ∨ most < 0 ∨ most < ((magR (mag l)).1 : Int) then (0, 6) else (((magR (mag l)).1 : Int), 0)
end Ltr

set_option maxHeartbeats 1000000 in
set_option maxRecDepth 100000 in
theorem lnat_any (l : List UInt8) (m : Int) (w : World) (hl : l.length ≤ 1000000) (hm : m ≤ 9223372036854775807) : Calls Tryz.prog 91 #[.string ⟨l.toArray⟩, .int .i64 m] w fun e w' =>
    e = .returned (.tuple #[.int .i64 (Ltr.natF l m).1, .int .i64 (Ltr.natF l m).2]) ∧ ∃ q, w' = w.drewN q := by
  have hmag := mag_any l w hl
  unfold Ltr.natF
  obtain ⟨⟨n, o, b⟩, hR⟩ : ∃ x, Ltr.magR (Ltr.mag l) = x := ⟨_, rfl⟩
  rw [hR] at hmag ⊢
  dsimp only at hmag ⊢
  have hn : n < 18446744073709551616 := by
    have : (Ltr.magR (Ltr.mag l)).1 = n := by rw [hR]
    rw [← this]
    unfold Ltr.magR
    split
    · simp
    · exact Nat.mod_lt _ (by omega)
  have HG := Lib.hid hmag
  clear hmag hR
  rcases b with _ | _
  · rw [if_pos rfl]
    go_enter Tryz.func91, Tryz.ntmps91
    go_wp2_with (go_at_call 135; refine HG.out.mono ?_; rintro e w1 ⟨rfl, q, rfl⟩)
    go_ret2
    exact ⟨rfl, q, rfl⟩
  · rw [if_neg (by decide)]
    rcases o with _ | _
    · by_cases h0 : m < 0
      · rw [if_pos (.inr (.inl h0))]
        have d0 : decide (m < 0) = true := by simpa using h0
        go_enter Tryz.func91, Tryz.ntmps91
        go_wp2_with (go_at_call 135; refine HG.out.mono ?_; rintro e w1 ⟨rfl, q, rfl⟩)
        go_ret2
        exact ⟨rfl, q, rfl⟩
      · have d0 : decide (m < 0) = false := by simpa using h0
        have u1 : IntKind.u64.wrap m = m := by rw [IntKind.wrap_u64]; omega
        by_cases h1 : m < (n : Int)
        · rw [if_pos (.inr (.inr h1))]
          have d1 : decide (m < (n : Int)) = true := by simpa using h1
          go_enter Tryz.func91, Tryz.ntmps91
          go_wp2_with (go_at_call 135; refine HG.out.mono ?_; rintro e w1 ⟨rfl, q, rfl⟩)
          go_ret2
          exact ⟨rfl, q, rfl⟩
        · rw [if_neg (by simp; omega)]
          have d1 : decide (m < (n : Int)) = false := by simpa using h1
          have u2 : IntKind.i64.wrap (n : Int) = (n : Int) := by rw [IntKind.wrap_i64]; omega
          go_enter Tryz.func91, Tryz.ntmps91
          go_wp2_with (go_at_call 135; refine HG.out.mono ?_; rintro e w1 ⟨rfl, q, rfl⟩)
          go_ret2
          exact ⟨rfl, q, rfl⟩
    · rw [if_pos (.inl rfl)]
      go_enter Tryz.func91, Tryz.ntmps91
      go_wp2_with (go_at_call 135; refine HG.out.mono ?_; rintro e w1 ⟨rfl, q, rfl⟩)
      go_ret2
      exact ⟨rfl, q, rfl⟩
end Go.Proofs.YtadnfekogmjieaaGreatDoor
set_option linter.unusedVariables false
namespace Go.Proofs.YtadnfekogmjieaaGreatDoor
open Go.RowKit
attribute [local go_sem] ByteArray.extract_mk

namespace Ltr
end Ltr
end Go.Proofs.YtadnfekogmjieaaGreatDoor
set_option linter.unusedVariables false
namespace Go.Proofs.YtadnfekogmjieaaGreatDoor
open Go.RowKit
attribute [local go_sem] ByteArray.extract_mk

end Go.Proofs.YtadnfekogmjieaaGreatDoor
set_option linter.unusedVariables false
namespace Go.Proofs.YtadnfekogmjieaaGreatDoor
open Go.RowKit
attribute [local go_sem] ByteArray.extract_mk

end Go.Proofs.YtadnfekogmjieaaGreatDoor
