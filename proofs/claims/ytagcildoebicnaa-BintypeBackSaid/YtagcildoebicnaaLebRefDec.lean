/-
  The reference's form, U, S compute the same plain functions.
-/
import Derived.Test.YtagcildoebicnaaLebDec
import Derived.Test.YtagcildoebicnaaLebEnc
set_option linter.unusedVariables false
namespace Go.Proofs.Ytagcildoebicnaa
open Go.RowKit

namespace Leb
def formF (l : List UInt8) (bits : Int) : Int × Int :=
  if bits < 1 ∨ 64 < bits then (0, 1) else
  match endIdx l ((bits.toNat + 6) / 7) with
  | some i => ((i : Int) + 1, 0)
  | none => if l.length < (bits.toNat + 6) / 7 then (0, 3) else (0, 4)
theorem formF_arg {l : List UInt8} {bits : Int} (h : bits < 1 ∨ 64 < bits) : formF l bits = (0, 1) := by rw [formF, if_pos h]
theorem formF_some {l : List UInt8} {bits : Int} {k : Nat} (h1 : 1 ≤ bits) (h2 : bits ≤ 64) (hk : k < (bits.toNat + 6) / 7) (hl : k < l.length) (h : Highs l k) (hb : l[k].toNat < 128) :
    formF l bits = ((k : Int) + 1, 0) := by
  rw [formF, if_neg (by omega), endIdx_some hk hl h hb]
theorem formF_none {l : List UInt8} {bits : Int} {k : Nat} (h1 : 1 ≤ bits) (h2 : bits ≤ 64) (hk : (bits.toNat + 6) / 7 ≤ k ∨ l.length ≤ k) (h : Highs l k) :
    formF l bits = if l.length < (bits.toNat + 6) / 7 then (0, 3) else (0, 4) := by
  rw [formF, if_neg (by omega), endIdx_none hk h]
/-- What form says, and what U and S make of it. -/
theorem form_cases (l : List UInt8) (bits : Int) :
    (∃ er : Int, er ≠ 0 ∧ formF l bits = (0, er) ∧ uF l bits = (0, 0, er) ∧ sF l bits = (0, 0, er)) ∨
    (∃ k c : Nat, ∃ hl : k < l.length, k ≤ 9 ∧ 1 ≤ c ∧ c ≤ 64 ∧ bits = 7 * (k : Int) + c ∧ l[k].toNat < 128 ∧ formF l bits = ((k : Int) + 1, 0) ∧
      uF l bits = (if c < 7 ∧ 2 ^ c ≤ l[k].toNat then (0, 0, 4) else (((valU l (k + 1) : Nat) : Int), (k : Int) + 1, 0)) ∧
      sF l bits = (if c < 7 ∧ sBad l[k].toNat c = true then (0, 0, 4) else (sval l k, (k : Int) + 1, 0))) := by
  by_cases h : bits < 1 ∨ 64 < bits
  · exact .inl ⟨1, by omega, by rw [formF, if_pos h], by rw [uF, if_pos h], by rw [sF, if_pos h]⟩
  rcases he : endIdx l ((bits.toNat + 6) / 7) with _ | k
  · refine .inl ⟨if l.length < (bits.toNat + 6) / 7 then 3 else 4, by split <;> omega, ?_, ?_, ?_⟩
    · rw [formF, if_neg h, he]; dsimp only; split <;> rfl
    · rw [uF, if_neg h, he]; dsimp only; split <;> rfl
    · rw [sF, if_neg h, he]; dsimp only; split <;> rfl
  · obtain ⟨hkm, hl, hh, hb⟩ := endIdx_some_iff he
    have hg : l.getD k 0 = l[k] := by simp [hl]
    refine .inr ⟨k, bits.toNat - 7 * k, hl, by omega, by omega, by omega, by omega, hb, ?_, ?_, ?_⟩
    · rw [formF, if_neg h, he]
    · rw [uF, if_neg h, he]; dsimp only; rw [hg]
      by_cases hm : bits.toNat - 7 * k < 7
      · simp only [hm, true_and, show k + 1 = (bits.toNat + 6) / 7 from by omega]
      · rw [if_neg, if_neg (by omega)]
        rintro ⟨h1, h2⟩
        have : bits.toNat - 7 * k = 7 := by omega
        rw [this] at h2
        simp only [show (2 : Nat) ^ 7 = 128 from rfl] at h2
        omega
    · rw [sF, if_neg h, he]; dsimp only; rw [hg]
      by_cases hm : bits.toNat - 7 * k < 7
      · simp only [hm, true_and, show k + 1 = (bits.toNat + 6) / 7 from by omega]
      · rw [if_neg, if_neg (by omega)]
        rintro ⟨h1, h2⟩
        have : bits.toNat - 7 * k = 7 := by omega
        rw [this, small7 _ hb] at h2
        cases h2
/-- The digits from j on. -/
def digs (l : List UInt8) (j k : Nat) : Nat := val (l.drop j) (k - j)
theorem digs_end (l : List UInt8) (k : Nat) : digs l k k = 0 := by simp [digs, val]
theorem digs_zero (l : List UInt8) (k : Nat) : digs l 0 k = val l k := by simp [digs]
theorem digs_step (l : List UInt8) (j k : Nat) (hj : j < k) (hl : j < l.length) : digs l j k = 128 * digs l (j + 1) k + l[j].toNat % 128 := by
  unfold digs
  rw [show k - j = (k - (j + 1)) + 1 from by omega, List.drop_eq_getElem_cons hl, val_cons]
  omega
def digsU (l : List UInt8) (j k : Nat) : Nat := digs l j k % 18446744073709551616
theorem digsU_step (l : List UInt8) (j k : Nat) (hj : j < k) (hl : j < l.length) :
    IntKind.u64.wrap (IntKind.u64.wrap (((digsU l (j + 1) k : Nat) : Int) * 128) + (l[j].toNat : Int) % 128) = (digsU l j k : Nat) := by
  unfold digsU
  rw [digs_step l j k hj hl, IntKind.wrap_u64, IntKind.wrap_u64]
  omega
def digsS (s : Int) (l : List UInt8) (j k : Nat) : Int := wrap64 (s * 128 ^ (k - j) + digs l j k)
theorem digsS_step (s : Int) (l : List UInt8) (j k : Nat) (hj : j < k) (hl : j < l.length) :
    wrap64 (wrap64 (digsS s l (j + 1) k * 128) + (l[j].toNat : Int) % 128) = digsS s l j k := by
  unfold digsS
  rw [digs_step l j k hj hl, show k - j = (k - (j + 1)) + 1 from by omega, Int.pow_succ, ← Int.mul_assoc]
  generalize s * 128 ^ (k - (j + 1)) = X
  generalize digs l (j + 1) k = Y
  unfold wrap64
  omega
theorem fill7_fin : ∀ d : Fin 8, wrap64 (wrap64 (2 ^ (7 - d.val)) - 1) = 127 / 2 ^ d.val := by decide +kernel
theorem fill7 (d : Nat) (h : d < 8) : wrap64 (wrap64 (2 ^ (7 - d)) - 1) = 127 / 2 ^ d := fill7_fin ⟨d, h⟩
theorem digsS_end (s : Int) (h : s = 0 ∨ s = -1) (l : List UInt8) (k : Nat) : digsS s l k k = s := by
  unfold digsS
  rw [digs_end, Nat.sub_self]
  rcases h with rfl | rfl <;> decide +kernel
theorem digsS_hi (l : List UInt8) (k : Nat) (h : 64 ≤ (l.getD k 0).toNat) : digsS (-1) l 0 (k + 1) = sval l k := by
  unfold digsS sval
  rw [if_pos h, digs_zero, Nat.sub_zero]
  congr 1
  omega
theorem digsS_lo (l : List UInt8) (k : Nat) (h : ¬ 64 ≤ (l.getD k 0).toNat) : digsS 0 l 0 (k + 1) = sval l k := by
  unfold digsS sval
  rw [if_neg h, digs_zero, Nat.sub_zero]
  congr 1
  omega
end Leb

def Ret2 (x : Int × Int) (w : World) (e : Ending) (w' : World) : Prop := e = .returned (.tuple #[.int .i64 x.1, .int .i64 x.2]) ∧ w = w'
theorem ret2_mk {x : Int × Int} {w : World} {a b : Int} (h : x = (a, b)) : Ret2 x w (.returned (.tuple #[.int .i64 a, .int .i64 b])) w := by subst h; exact ⟨rfl, rfl⟩

set_option maxHeartbeats 400000 in
set_option maxRecDepth 100000 in
theorem form_any (A : Option Addr) (c : Nat) (l : List UInt8) (bits : Int) (w : World) (B : Nat) (hr : RdB w B A l) (hl : l.length ≤ 1000000000) :
    Calls Try.prog 108 #[.slice A l.length c, .int .i64 bits] w (Ret2 (Leb.formF l bits) w) := by
  by_cases h1 : bits < 1
  · go_enter Try.func108, Try.ntmps108
    go_wp2
    go_ret2
    exact ret2_mk (Leb.formF_arg (.inl h1))
  by_cases h2 : 64 < bits
  · go_enter Try.func108, Try.ntmps108
    go_wp2
    go_ret2
    exact ret2_mk (Leb.formF_arg (.inr h2))
  obtain ⟨b, rfl⟩ := Int.eq_ofNat_of_zero_le (show 0 ≤ bits by omega)
  have h1' : 1 ≤ b := by omega
  have h2' : b ≤ 64 := by omega
  have g1 : decide ((b : Int) < 1) = false := by simp; omega
  have g2 : decide ((64 : Int) < (b : Int)) = false := by simp; omega
  clear h1 h2
  go_enter Try.func108, Try.ntmps108
  go_wp2
  go_loop [7] (fun i => ∃ k : Nat, k ≤ (b + 6) / 7 ∧ k ≤ l.length ∧ i = .int .i64 k ∧ Leb.Highs l k) (fun i => (b + 6) / 7 - (intOf i).toNat)
  case atStart => exact ⟨0, by omega, by omega, rfl, fun j _ h => absurd h (by omega)⟩
  case round =>
    obtain ⟨k, hk, hkl, rfl, hh⟩ := hrel
    by_cases hkl2 : k < l.length
    · by_cases hkm : k < (b + 6) / 7
      · obtain ⟨ad, rfl, _, hcell⟩ := hr.at_ hkl2
        by_cases hb : l[k].toNat < 128
        · go_wp2
          go_ret2
          exact ret2_mk (by rw [Leb.formF_some (by omega) (by omega) (by omega) hkl2 hh (by omega)])
        · go_wp2
          go_round
          case rel => exact ⟨k + 1, by omega, by omega, by go_num, fun j hj hlt => by
            by_cases e : j = k
            · subst e; omega
            · exact hh j hj (by omega)⟩
          case measure => simp [intOf]; omega
      · go_wp2
        go_ret2
        exact ret2_mk (by rw [Leb.formF_none (by omega) (by omega) (.inl (by omega)) hh, if_neg (by omega)])
    · by_cases hlm : l.length < (b + 6) / 7
      · go_wp2
        go_ret2
        exact ret2_mk (by rw [Leb.formF_none (by omega) (by omega) (.inr (by omega)) hh, if_pos (by omega)])
      · go_wp2
        go_ret2
        exact ret2_mk (by rw [Leb.formF_none (by omega) (by omega) (.inr (by omega)) hh, if_neg (by omega)])

set_option maxHeartbeats 400000 in
set_option maxRecDepth 100000 in
theorem refU_any (A : Option Addr) (c : Nat) (l : List UInt8) (bits : Int) (w : World) (B : Nat) (hr : RdB w B A l) (hl : l.length ≤ 1000000000) :
    Calls Try.prog 105 #[.slice A l.length c, .int .i64 bits] w (Ret3 .u64 (Leb.uF l bits) w) := by
  rcases Leb.form_cases l bits with ⟨er, hne, hla, hu, -⟩ | ⟨k, cn, hkl, hk9, hc1, hc64, hbits, hb, hla, hu, -⟩
  · have HU := Lib.hid hu; have HL := Lib.hid hla; clear hu hla
    have hne' : (er != 0) = true := by simpa using hne
    go_enter Try.func105, Try.ntmps105
    go_wp2_with fail
    refine (form_any A c l bits _ B hr hl).mono ?_
    rintro e w1 ⟨rfl, rfl⟩
    rw [HL.out]
    go_wp2
    go_ret3
    exact ret3_mk HU.out
  · have HL := Lib.hid hla; clear hla
    subst hbits
    obtain ⟨ad, rfl, hblk, hcell⟩ := hr.at_ hkl
    have he : 7 * (k : Int) + cn - 7 * (k : Int) = cn := by omega
    by_cases hbad : cn < 7 ∧ 2 ^ cn ≤ l[k].toNat
    · rw [if_pos hbad] at hu
      have HU := Lib.hid hu; clear hu
      have g1 : decide ((cn : Int) < 7) = true := by simp; omega
      have g2 : (((l[k].toNat : Nat) : Int) / 2 ^ cn != 0) = true := by rw [Leb.shr_ne]; simpa using hbad.2
      clear hbad
      go_enter Try.func105, Try.ntmps105
      go_wp2_with fail
      refine (form_any _ c l _ _ B hr hl).mono ?_
      rintro e w1 ⟨rfl, rfl⟩
      rw [HL.out]
      go_wp2
      go_ret3
      exact ret3_mk HU.out
    · rw [if_neg hbad] at hu
      have HU := Lib.hid hu; clear hu
      have hcase : (decide ((cn : Int) < 7) = true ∧ (((l[k].toNat : Nat) : Int) / 2 ^ cn != 0) = false) ∨ decide ((cn : Int) < 7) = false := by
        by_cases h7 : cn < 7
        · refine .inl ⟨by simp; omega, ?_⟩
          rw [Leb.shr_ne]; simp; omega
        · exact .inr (by simp; omega)
      clear hbad
      rcases hcase with ⟨g1, g2⟩ | g1
      all_goals
        go_enter Try.func105, Try.ntmps105
        go_wp2_with fail
        refine (form_any _ c l _ _ B hr hl).mono ?_
        rintro e w1 ⟨rfl, rfl⟩
        rw [HL.out]
        go_wp2_with fail
        go_loop [10, 11] (fun n i => ∃ j : Nat, j ≤ k + 1 ∧ i = .int .i64 ((j : Int) - 1) ∧ n = .int .u64 (Leb.digsU l j (k + 1) : Nat)) (fun _ i => (intOf i + 1).toNat)
        case atStart => exact ⟨k + 1, by omega, by go_num, by simp [Leb.digsU, Leb.digs_end]⟩
        case round =>
          obtain ⟨j, hj, rfl, rfl⟩ := hrel
          rcases Nat.eq_zero_or_pos j with h0 | h0
          · subst h0
            go_wp2
            go_ret3
            exact ret3_mk (by rw [HU.out]; unfold Leb.digsU Leb.valU; rw [Leb.digs_zero])
          · obtain ⟨t, rfl⟩ : ∃ t, j = t + 1 := ⟨j - 1, by omega⟩
            have et : ((t + 1 : Nat) : Int) - 1 = (t : Int) := by omega
            rw [et]
            clear et hcell
            obtain ⟨ad', had, _, hcell⟩ := hr.at_ (show t < l.length by omega)
            obtain rfl : ad = ad' := by injection had
            have hst := Leb.digsU_step l t (k + 1) (by omega) (by omega)
            go_wp2
            go_round
            case rel => exact ⟨t, by omega, by go_num, by first | rfl | rw [hst]⟩
            case measure => simp [intOf]

set_option maxHeartbeats 2000000 in
set_option maxRecDepth 100000 in
theorem refS_any (A : Option Addr) (c : Nat) (l : List UInt8) (bits : Int) (w : World) (B : Nat) (hr : RdB w B A l) (hl : l.length ≤ 1000000000) :
    Calls Try.prog 101 #[.slice A l.length c, .int .i64 bits] w (Ret3 .i64 (Leb.sF l bits) w) := by
  rcases Leb.form_cases l bits with ⟨er, hne, hla, -, hu⟩ | ⟨k, cn, hkl, hk9, hc1, hc64, hbits, hb, hla, -, hu⟩
  · have HU := Lib.hid hu; have HL := Lib.hid hla; clear hu hla
    have hne' : (er != 0) = true := by simpa using hne
    go_enter Try.func101, Try.ntmps101
    go_wp2_with fail
    refine (form_any A c l bits _ B hr hl).mono ?_
    rintro e w1 ⟨rfl, rfl⟩
    rw [HL.out]
    go_wp2
    go_ret3
    exact ret3_mk HU.out
  · have HL := Lib.hid hla; clear hla
    obtain ⟨ad, rfl, hblk, hcell⟩ := hr.at_ hkl
    obtain ⟨d, rfl⟩ : ∃ d, cn = d + 1 := ⟨cn - 1, by omega⟩
    have he : bits - 7 * (k : Int) = (d : Int) + 1 := by omega
    have hb1 : 1 ≤ bits := by omega
    have hb2 : bits ≤ 200 := by omega
    clear hbits
    have hg : l.getD k 0 = l[k] := by simp [hkl]
    rw [Leb.sBad_succ, ← Leb.ne_cast0, ← Leb.ne_cast1] at hu
    by_cases hbad : d + 1 < 7 ∧ (((l[k].toNat : Int) / 2 ^ d != 0) && ((l[k].toNat : Int) / 2 ^ d != 127 / 2 ^ d)) = true
    · rw [if_pos hbad] at hu
      have HU := Lib.hid hu; clear hu
      have g0 : decide ((d : Int) + 1 < 7) = true := by simp; omega
      have g1 : ((l[k].toNat : Int) / 2 ^ d != 0) = true := (Bool.and_eq_true _ _ ▸ hbad.2).1
      have g2 : ((l[k].toNat : Int) / 2 ^ d != 127 / 2 ^ d) = true := (Bool.and_eq_true _ _ ▸ hbad.2).2
      have hz := Leb.fill7 d (by omega)
      have hd7 : d + 1 < 7 := hbad.1
      clear hbad hg
      go_enter Try.func101, Try.ntmps101
      go_wp2_with fail
      refine (form_any _ c l _ _ B hr hl).mono ?_
      rintro e w1 ⟨rfl, rfl⟩
      rw [HL.out]
      go_wp2
      go_ret3
      exact ret3_mk HU.out
    · rw [if_neg hbad] at hu
      have HU := Lib.hid hu; clear hu
      have hcase : (d + 1 < 7 ∧ decide ((d : Int) + 1 < 7) = true ∧ wrap64 (wrap64 (2 ^ (7 - d)) - 1) = 127 / 2 ^ d ∧ ((l[k].toNat : Int) / 2 ^ d != 0) = false) ∨
          (d + 1 < 7 ∧ decide ((d : Int) + 1 < 7) = true ∧ wrap64 (wrap64 (2 ^ (7 - d)) - 1) = 127 / 2 ^ d ∧ ((l[k].toNat : Int) / 2 ^ d != 0) = true ∧ ((l[k].toNat : Int) / 2 ^ d != 127 / 2 ^ d) = false) ∨ decide ((d : Int) + 1 < 7) = false := by
        by_cases h7 : d + 1 < 7
        · have hz := Leb.fill7 d (by omega)
          have h7' : decide ((d : Int) + 1 < 7) = true := by simp; omega
          rcases h0 : ((l[k].toNat : Int) / 2 ^ d != 0) with _ | _
          · exact .inl ⟨h7, h7', hz, rfl⟩
          · rcases h1 : ((l[k].toNat : Int) / 2 ^ d != 127 / 2 ^ d) with _ | _
            · exact .inr (.inl ⟨h7, h7', hz, rfl, rfl⟩)
            · exact absurd ⟨h7, by rw [h0, h1]; rfl⟩ hbad
        · exact .inr (.inr (by simp; omega))
      clear hbad
      by_cases h64 : 64 ≤ l[k].toNat
      · have HV := Lib.hid (Leb.digsS_hi l k (by rw [hg]; exact h64))
        clear hg
        rcases hcase with ⟨hd7, g0, hz, g1⟩ | ⟨hd7, g0, hz, g1, g2⟩ | g0
        all_goals
          go_enter Try.func101, Try.ntmps101
          go_wp2_with fail
          refine (form_any _ c l _ _ B hr hl).mono ?_
          rintro e w1 ⟨rfl, rfl⟩
          rw [HL.out]
          go_wp2_with fail
          go_loop [11, 12] (fun n i => ∃ j : Nat, j ≤ k + 1 ∧ i = .int .i64 ((j : Int) - 1) ∧ n = .int .i64 (Leb.digsS (-1) l j (k + 1))) (fun _ i => (intOf i + 1).toNat)
          case atStart => exact ⟨k + 1, by omega, by go_num, by rw [Leb.digsS_end _ (by omega)]⟩
          case round =>
            obtain ⟨j, hj, rfl, rfl⟩ := hrel
            rcases Nat.eq_zero_or_pos j with h0 | h0
            · subst h0
              go_wp2
              go_ret3
              exact ret3_mk (by rw [HU.out, HV.out])
            · obtain ⟨t, rfl⟩ : ∃ t, j = t + 1 := ⟨j - 1, by omega⟩
              have et : ((t + 1 : Nat) : Int) - 1 = (t : Int) := by omega
              rw [et]
              clear et hcell
              obtain ⟨ad', had, _, hcell⟩ := hr.at_ (show t < l.length by omega)
              obtain rfl : ad = ad' := by injection had
              have hst := Leb.digsS_step (-1) l t (k + 1) (by omega) (by omega)
              go_wp2
              go_round
              case rel => exact ⟨t, by omega, by go_num, by first | rfl | rw [hst]⟩
              case measure => simp [intOf]
      · have HV := Lib.hid (Leb.digsS_lo l k (by rw [hg]; exact h64))
        clear hg
        rcases hcase with ⟨hd7, g0, hz, g1⟩ | ⟨hd7, g0, hz, g1, g2⟩ | g0
        all_goals
          go_enter Try.func101, Try.ntmps101
          go_wp2_with fail
          refine (form_any _ c l _ _ B hr hl).mono ?_
          rintro e w1 ⟨rfl, rfl⟩
          rw [HL.out]
          go_wp2_with fail
          go_loop [11, 12] (fun n i => ∃ j : Nat, j ≤ k + 1 ∧ i = .int .i64 ((j : Int) - 1) ∧ n = .int .i64 (Leb.digsS 0 l j (k + 1))) (fun _ i => (intOf i + 1).toNat)
          case atStart => exact ⟨k + 1, by omega, by go_num, by rw [Leb.digsS_end _ (by omega)]⟩
          case round =>
            obtain ⟨j, hj, rfl, rfl⟩ := hrel
            rcases Nat.eq_zero_or_pos j with h0 | h0
            · subst h0
              go_wp2
              go_ret3
              exact ret3_mk (by rw [HU.out, HV.out])
            · obtain ⟨t, rfl⟩ : ∃ t, j = t + 1 := ⟨j - 1, by omega⟩
              have et : ((t + 1 : Nat) : Int) - 1 = (t : Int) := by omega
              rw [et]
              clear et hcell
              obtain ⟨ad', had, _, hcell⟩ := hr.at_ (show t < l.length by omega)
              obtain rfl : ad = ad' := by injection had
              have hst := Leb.digsS_step 0 l t (k + 1) (by omega) (by omega)
              go_wp2
              go_round
              case rel => exact ⟨t, by omega, by go_num, by first | rfl | rw [hst]⟩
              case measure => simp [intOf]
end Go.Proofs.Ytagcildoebicnaa
