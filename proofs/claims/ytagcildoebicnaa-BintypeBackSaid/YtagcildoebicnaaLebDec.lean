/-
  What leb.last, leb.sum, leb.U, leb.S compute: the walks.
-/
import Derived.Test.YtagcildoebicnaaWords
import Derived.Test.YtagcildoebicnaaLebMath
set_option linter.unusedVariables false
namespace Go.Proofs.Ytagcildoebicnaa
open Go.RowKit


def Ret3 (k : IntKind) (x : Int × Int × Int) (w : World) (e : Ending) (w' : World) : Prop := e = .returned (.tuple #[.int k x.1, .int .i64 x.2.1, .int .i64 x.2.2]) ∧ w = w'
theorem ret3_mk {k : IntKind} {x : Int × Int × Int} {w : World} {a b c : Int} (h : x = (a, b, c)) : Ret3 k x w (.returned (.tuple #[.int k a, .int .i64 b, .int .i64 c])) w := by subst h; exact ⟨rfl, rfl⟩

set_option maxHeartbeats 400000 in
set_option maxRecDepth 100000 in
theorem last_any (A : Option Addr) (c : Nat) (l : List UInt8) (bits : Int) (w : World) (B : Nat) (hr : RdB w B A l) (hl : l.length ≤ 1000000000) :
    Calls Try.prog 106 #[.slice A l.length c, .int .i64 bits] w (Ret3 .i64 (Leb.lastF l bits) w) := by
  by_cases h1 : bits < 1
  · go_enter Try.func106, Try.ntmps106
    go_wp2
    go_ret3
    exact ret3_mk (Leb.lastF_arg (.inl h1))
  by_cases h2 : 64 < bits
  · go_enter Try.func106, Try.ntmps106
    go_wp2
    go_ret3
    exact ret3_mk (Leb.lastF_arg (.inr h2))
  obtain ⟨b, rfl⟩ := Int.eq_ofNat_of_zero_le (show 0 ≤ bits by omega)
  have h1' : 1 ≤ b := by omega
  have h2' : b ≤ 64 := by omega
  clear h1 h2
  go_enter Try.func106, Try.ntmps106
  go_wp2
  go_loop [19] (fun i => ∃ k : Nat, k ≤ (b + 6) / 7 ∧ k ≤ l.length ∧ i = .int .i64 k ∧ Leb.Highs l k) (fun i => (b + 6) / 7 - (intOf i).toNat)
  case atStart => exact ⟨0, by omega, by omega, rfl, fun j _ h => absurd h (by omega)⟩
  case round =>
    obtain ⟨k, hk, hkl, rfl, hh⟩ := hrel
    by_cases hkm : k < (b + 6) / 7
    · by_cases hkl2 : k < l.length
      · obtain ⟨ad, rfl, _, hcell⟩ := hr.at_ hkl2
        by_cases hb : 128 ≤ l[k].toNat
        · go_wp2
          go_round
          case rel => exact ⟨k + 1, by omega, by omega, by go_num, fun j hj hlt => by
            by_cases e : j = k
            · subst e; exact hb
            · exact hh j hj (by omega)⟩
          case measure => simp [intOf]; omega
        · by_cases hlast : k + 1 = (b + 6) / 7
          · have hq : ((k : Int) == ((b : Int) + 6) / 7 - 1) = true := by simp; omega
            go_wp2
            go_ret3
            exact ret3_mk (by rw [Leb.lastF_some (by omega) (by omega) (by omega) hkl2 hh (by omega), if_pos (by omega)])
          · have hq : ((k : Int) == ((b : Int) + 6) / 7 - 1) = false := by simp; omega
            go_wp2
            go_ret3
            exact ret3_mk (by rw [Leb.lastF_some (by omega) (by omega) (by omega) hkl2 hh (by omega), if_neg (by omega)])
      · go_wp2
        go_ret3
        exact ret3_mk (by rw [Leb.lastF_none (by omega) (by omega) (.inr (by omega)) hh, if_pos (by omega)])
    · go_wp2
      go_ret3
      exact ret3_mk (by rw [Leb.lastF_none (by omega) (by omega) (.inl (by omega)) hh, if_neg (by omega)])


set_option maxHeartbeats 400000 in
set_option maxRecDepth 100000 in
theorem sum_any (A : Option Addr) (c : Nat) (l : List UInt8) (a : Int) (w : World) (B : Nat) (hr : RdB w B A l) (ha : a.toNat < l.length) (h0 : 0 ≤ a) (h9 : a ≤ 9) :
    Calls Try.prog 107 #[.slice A l.length c, .int .i64 a] w fun e w' => e = .returned (.int .u64 (Leb.valU l (a.toNat + 1) : Nat)) ∧ w = w' := by
  obtain ⟨b, rfl⟩ := Int.eq_ofNat_of_zero_le h0
  have hb9 : b ≤ 9 := by omega
  have hbl : b < l.length := by simpa using ha
  clear h0 h9 ha
  rw [Int.toNat_natCast]
  go_enter Try.func107, Try.ntmps107
  go_wp2
  go_loop [5, 9] (fun n i => ∃ k : Nat, k ≤ b + 1 ∧ i = .int .i64 k ∧ n = .int .u64 (Leb.valU l k : Nat)) (fun _ i => b + 1 - (intOf i).toNat)
  case atStart => exact ⟨0, by omega, rfl, rfl⟩
  case round =>
    obtain ⟨k, hk, rfl, rfl⟩ := hrel
    by_cases hkm : k < b + 1
    · obtain ⟨ad, rfl, _, hcell⟩ := hr.at_ (show k < l.length by omega)
      have hb0 : ((l[k].toNat : Nat) : Int) < 256 := by have := l[k].toNat_lt; omega
      have ho := Leb.and127 (l[k].toNat : Int) (by omega) hb0
      go_wp2
      go_round
      case rel => exact ⟨k + 1, by omega, by go_num, by rw [Leb.val_or l k (by omega)]⟩
      case measure => simp [intOf]; omega
    · go_wp2
      go_ret
      have e : k = b + 1 := by omega
      subst e
      exact ⟨rfl, rfl⟩


set_option maxHeartbeats 400000 in
set_option maxRecDepth 100000 in
theorem u_any (A : Option Addr) (c : Nat) (l : List UInt8) (bits : Int) (w : World) (B : Nat) (hr : RdB w B A l) (hl : l.length ≤ 1000000000) :
    Calls Try.prog 104 #[.slice A l.length c, .int .i64 bits] w (Ret3 .u64 (Leb.uF l bits) w) := by
  rcases Leb.last_cases l bits with ⟨er, hne, hla, hu, -⟩ | ⟨k, cn, hkl, hk9, hc1, hc7, hb, hla, hu, -⟩
  · have HU := Lib.hid hu; have HL := Lib.hid hla; clear hu hla
    have hne' : (er != 0) = true := by simpa using hne
    go_enter Try.func104, Try.ntmps104
    go_wp2_with fail
    refine (last_any A c l bits _ B hr hl).mono ?_
    rintro e w1 ⟨rfl, rfl⟩
    rw [HL.out]
    go_wp2
    go_ret3
    exact ret3_mk HU.out
  · have HL := Lib.hid hla; clear hla
    obtain ⟨ad, rfl, _, hcell⟩ := hr.at_ hkl
    by_cases hbad : 2 ^ cn ≤ l[k].toNat
    · rw [if_pos hbad] at hu
      have HU := Lib.hid hu; clear hu
      have hq : (((l[k].toNat : Nat) : Int) / 2 ^ cn != 0) = true := by rw [Leb.shr_ne]; simpa using hbad
      clear hbad
      go_enter Try.func104, Try.ntmps104
      go_wp2_with fail
      refine (last_any _ c l bits _ B hr hl).mono ?_
      rintro e w1 ⟨rfl, rfl⟩
      rw [HL.out]
      go_wp2
      go_ret3
      exact ret3_mk HU.out
    · rw [if_neg hbad] at hu
      have HU := Lib.hid hu; clear hu
      have hq : (((l[k].toNat : Nat) : Int) / 2 ^ cn != 0) = false := by rw [Leb.shr_ne]; simpa using hbad
      clear hbad
      go_enter Try.func104, Try.ntmps104
      go_wp2_with fail
      refine (last_any _ c l bits _ B hr hl).mono ?_
      rintro e w1 ⟨rfl, rfl⟩
      rw [HL.out]
      go_wp2_with fail
      refine (sum_any _ c l k _ B hr (by omega) (by omega) (by omega)).mono ?_
      rintro e w1 ⟨rfl, rfl⟩
      rw [Int.toNat_natCast]
      go_wp2
      go_ret3
      exact ret3_mk HU.out

set_option maxHeartbeats 2000000 in
set_option maxRecDepth 100000 in
theorem s_any (A : Option Addr) (c : Nat) (l : List UInt8) (bits : Int) (w : World) (B : Nat) (hr : RdB w B A l) (hl : l.length ≤ 1000000000) :
    Calls Try.prog 100 #[.slice A l.length c, .int .i64 bits] w (Ret3 .i64 (Leb.sF l bits) w) := by
  rcases Leb.last_cases l bits with ⟨er, hne, hla, -, hu⟩ | ⟨k, cn, hkl, hk9, hc1, hc7, hb, hla, -, hu⟩
  · have HU := Lib.hid hu; have HL := Lib.hid hla; clear hu hla
    have hne' : (er != 0) = true := by simpa using hne
    go_enter Try.func100, Try.ntmps100
    go_wp2_with fail
    refine (last_any A c l bits _ B hr hl).mono ?_
    rintro e w1 ⟨rfl, rfl⟩
    rw [HL.out]
    go_wp2
    go_ret3
    exact ret3_mk HU.out
  · have HL := Lib.hid hla; clear hla
    obtain ⟨ad, rfl, _, hcell⟩ := hr.at_ hkl
    obtain ⟨d, rfl⟩ : ∃ d, cn = d + 1 := ⟨cn - 1, by omega⟩
    rw [Leb.sBad_succ, ← Leb.ne_cast0, ← Leb.ne_cast1] at hu
    have hbit := Leb.and64 _ hb
    have hg : l.getD k 0 = l[k] := by simp [hkl]
    rcases h0 : ((l[k].toNat : Int) / 2 ^ d != 0) with _ | _
    all_goals rcases h1 : ((l[k].toNat : Int) / 2 ^ d != 127 / 2 ^ d) with _ | _
    all_goals rw [h0, h1] at hu
    case true.true =>
      have HU := Lib.hid hu; clear hu
      clear hbit hg
      go_enter Try.func100, Try.ntmps100
      go_wp2_with fail
      refine (last_any _ c l bits _ B hr hl).mono ?_
      rintro e w1 ⟨rfl, rfl⟩
      rw [HL.out]
      go_wp2
      go_ret3
      exact ret3_mk HU.out
    all_goals
      have HU := Lib.hid hu; clear hu
      by_cases hk : k = 9
      · have HV := Lib.hid (Leb.sval_plain l k hk9 (.inl hk))
        have hk8 : (64 : Int) ≤ 7 * ((k : Int) + 1) := by omega
        clear hbit hg
        have HK := Lib.hid hk
        clear hk
        go_enter Try.func100, Try.ntmps100
        go_wp2_with fail
        refine (last_any _ c l bits _ B hr hl).mono ?_
        rintro e w1 ⟨rfl, rfl⟩
        rw [HL.out]
        go_wp2_with (go_at_call 107; refine (sum_any _ c l k _ B hr (by omega) (by omega) (by omega)).mono ?_; rintro e w1 ⟨rfl, rfl⟩; rw [Int.toNat_natCast])
        go_ret3
        refine ret3_mk ?_
        rw [HU.out, HV.out]
        rfl
      · have hk8 : 7 * ((k : Int) + 1) < 64 := by omega
        by_cases h64 : 64 ≤ l[k].toNat
        · have HV := Lib.hid (Leb.sval_fill l k (by omega) (by rw [hg]; exact h64))
          rw [decide_eq_true h64] at hbit
          clear hg
          go_enter Try.func100, Try.ntmps100
          go_wp2_with fail
          refine (last_any _ c l bits _ B hr hl).mono ?_
          rintro e w1 ⟨rfl, rfl⟩
          rw [HL.out]
          go_wp2_with (go_at_call 107; refine (sum_any _ c l k _ B hr (by omega) (by omega) (by omega)).mono ?_; rintro e w1 ⟨rfl, rfl⟩; rw [Int.toNat_natCast])
          go_ret3
          refine ret3_mk ?_
          rw [HU.out, HV.out]
          rfl
        · have HV := Lib.hid (Leb.sval_plain l k hk9 (.inr (by rw [hg]; omega)))
          rw [decide_eq_false h64] at hbit
          clear hg
          go_enter Try.func100, Try.ntmps100
          go_wp2_with fail
          refine (last_any _ c l bits _ B hr hl).mono ?_
          rintro e w1 ⟨rfl, rfl⟩
          rw [HL.out]
          go_wp2_with (go_at_call 107; refine (sum_any _ c l k _ B hr (by omega) (by omega) (by omega)).mono ?_; rintro e w1 ⟨rfl, rfl⟩; rw [Int.toNat_natCast])
          go_ret3
          refine ret3_mk ?_
          rw [HU.out, HV.out]
          rfl

/-- The same with the length under a name of its own. -/
theorem u_len {n : Nat} (A : Option Addr) (c : Nat) (l : List UInt8) (bits : Int) (w : World) (B : Nat) (hn : l.length = n) (hr : RdB w B A l) (hl : l.length ≤ 1000000000) :
    Calls Try.prog 104 #[.slice A n c, .int .i64 bits] w (Ret3 .u64 (Leb.uF l bits) w) := by subst hn; exact u_any A c l bits w B hr hl
theorem s_len {n : Nat} (A : Option Addr) (c : Nat) (l : List UInt8) (bits : Int) (w : World) (B : Nat) (hn : l.length = n) (hr : RdB w B A l) (hl : l.length ≤ 1000000000) :
    Calls Try.prog 100 #[.slice A n c, .int .i64 bits] w (Ret3 .i64 (Leb.sF l bits) w) := by subst hn; exact s_any A c l bits w B hr hl
end Go.Proofs.Ytagcildoebicnaa
