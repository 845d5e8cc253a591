/-
  The reference's braced: an escape of the form u{..}.
-/
import Derived.Test.YtpmalmednkknpaaDoorLitPoint
set_option linter.unusedVariables false
namespace Go.Proofs.YtpmalmednkknpaaDoor
open Go.RowKit
attribute [local go_sem] ByteArray.extract_mk

def Ltr.bracedF (at_ : Nat) (t : List UInt8) : List UInt8 × Int × Int := if (pointF t).2.2 = 0 then ((pointF t).1, (at_ : Int) + (pointF t).2.1 - 1, 0) else ([], 0, (pointF t).2.2)
theorem Ltr.dig_125 : dig 125 < 0 := by decide

set_option maxHeartbeats 2000000 in
set_option maxRecDepth 100000 in
theorem braced_any (L t : List UInt8) (a : Nat) (w : World) (hl : L.length ≤ 1000000) (hLt : L.length = a + 1 + t.length) (hLk : ∀ k (h : k < t.length), L[a + 1 + k]'(by omega) = t[k]) :
    Calls Tryd.prog 36 #[.string ⟨L.toArray⟩, .int .i64 (a : Int)] w (RetE (Ltr.bracedF a t) w) := by
  have HH := Lib.hid (Ltr.hrun_le t)
  obtain ⟨m, hm⟩ : ∃ m, (Ltr.hrun t).length = m := ⟨_, rfl⟩
  have HM := Lib.hid hm
  have HF : Hid (∀ k, k < m → ∃ h1 : k < t.length, 0 ≤ Ltr.dig t[k]) := Lib.hid (fun k hk => by obtain ⟨h1, _, h2⟩ := Ltr.hrun_at t k (by omega); exact ⟨h1, h2⟩)
  have HB : Hid (∀ k (h : k < t.length) (c : UInt8), t[k] = c → ∀ h2, (ByteArray.mk L.toArray)[a + 1 + k]'h2 = c) := Lib.hid (fun k h c hc h2 => by rw [← hc, ← hLk k h]; rfl)
  have HL := Lib.hid hLt
  have a0 : (0 : Int) ≤ (a : Int) := by omega
  have a1 : (a : Int) ≤ 1000000 := by omega
  have lt : (L.length : Int) = (a : Int) + 1 + (t.length : Int) := by omega
  have HLT := Lib.hid lt
  have wa1 : IntKind.i64.wrap ((a : Int) + 1) = (a : Int) + 1 := by rw [IntKind.wrap_i64]; omega
  clear hm hLk hLt lt
  go_enter Tryd.func36, Tryd.ntmps36
  go_wp2_with fail
  go_loopw [7, 8] (fun n i wr => ∃ k : Nat, k ≤ m ∧ k ≤ 6 ∧ i = .int .i64 ((a : Int) + 1 + (k : Int)) ∧ n = .int .i64 ((Ltr.hval (t.take k) : Nat) : Int) ∧ wr = w) (fun _ i _ => a + 10 - (intOf i).toNat)
  case atStart => exact ⟨0, by omega, by omega, by simp, rfl, rfl⟩
  case round =>
    obtain ⟨k, hk, hk6, rfl, rfl, rfl⟩ := hrel
    have hN := Ltr.hval_lt (t.take k)
    have hN6 : Ltr.hval (t.take k) < 16777216 := Nat.lt_of_lt_of_le hN (Nat.le_trans (Nat.pow_le_pow_right (by omega) (by simp; omega : (t.take k).length ≤ 6)) (by omega))
    obtain ⟨N, hNe⟩ : ∃ N, Ltr.hval (t.take k) = N := ⟨_, rfl⟩
    rw [hNe] at hN6 ⊢
    have HN := Lib.hid hNe
    have i0 : (0 : Int) ≤ (k : Int) := by omega
    clear hN hNe
    by_cases hkl : k < t.length
    · have i1 : (a : Int) + 1 + (k : Int) < (L.length : Int) := by have := HLT.out; omega
      have hbk := HB.out k hkl t[k] rfl (by show a + 1 + k < L.toArray.size; have := HL.out; simp; omega)
      have HT := Lib.hid (List.take_succ_eq_append_getElem hkl)
      have hdl := Ltr.dig_le t[k]
      have HX : Hid ((t.drop k).head? = some t[k]) := Lib.hid (by rw [List.head?_drop, List.getElem?_eq_getElem hkl])
      have hdm : (k < m → 0 ≤ Ltr.dig t[k]) ∧ (k = m → Ltr.dig t[k] < 0) := ⟨fun h => (HF.out k h).2, fun h => by subst h; have := Ltr.hrun_end t (by rw [HM.out]; exact hkl); simpa [HM.out] using this⟩
      obtain ⟨c, hc⟩ : ∃ c, t[k] = c := ⟨_, rfl⟩
      rw [hc] at hbk HT hdm hdl HX
      have HD : Hid (∀ W : World, Calls Tryd.prog 37 #[.int .u8 (c.toNat : Int)] W fun e w' => e = .returned (.int .i64 (Ltr.dig c)) ∧ W = w') := Lib.hid (fun W => rdigit_any c W)
      have HV := Lib.hid (Ltr.hval_snoc (t.take k) c)
      have hc125 : 0 ≤ Ltr.dig c → c ≠ 125 := fun h e => by subst e; have := Ltr.dig_125; omega
      generalize Ltr.dig c = d at *
      clear hc
      by_cases hkm : k < m
      · have hd := hdm.1 hkm
        have g0 : decide (0 ≤ d) = true := by simpa using hd
        by_cases h6 : k < 6
        · have g6 : decide ((a : Int) + 1 + (k : Int) < (a : Int) + 7) = true := by simp; omega
          clear hdm hc125
          go_wp2_with (go_at_call 37; refine (HD.out _).mono ?_; rintro e w1 ⟨rfl, rfl⟩)
          go_roundw
          case rel => exact ⟨k + 1, by omega, by omega, by go_num, by rw [HT.out, HV.out, HN.out]; simp; omega, trivial⟩
          case measure => simp [intOf]; omega
        · have hk6' : k = 6 := by omega
          subst hk6'
          have g6 : decide ((a : Int) + 1 + ((6 : Nat) : Int) < (a : Int) + 7) = false := by simp; omega
          have s1 := lcne' c 125 (by omega) (hc125 hd)
          simp only [Int.cast_ofNat_Int] at s1 g6
          have HP : Hid (Ltr.bracedF a t = ([], 0, 4)) := Lib.hid (by unfold Ltr.bracedF; rw [Ltr.pointF_bad t (by rw [HM.out]; omega)]; rfl)
          have e2 : ((a : Int) + 1 + 6 == (a : Int) + 1) = false := by simp; omega
          clear hdm hc125
          go_wp2_with (go_at_call 37; refine (HD.out _).mono ?_; rintro e w1 ⟨rfl, rfl⟩)
          go_ret3
          exact retE_mk HP.out (Below.refl _ _)
      · obtain rfl : k = m := by omega
        have hdn := hdm.2 rfl
        have g0 : decide (0 ≤ d) = false := by simpa using hdn
        have hg6 : decide ((a : Int) + 1 + (k : Int) < (a : Int) + 7) = decide (k < 6) := by
          rw [Bool.eq_iff_iff]; simp; omega
        clear hdm hc125 hkm
        have ways6 : decide ((a : Int) + 1 + (k : Int) < (a : Int) + 7) = true ∨ decide ((a : Int) + 1 + (k : Int) < (a : Int) + 7) = false := by cases decide ((a : Int) + 1 + (k : Int) < (a : Int) + 7) <;> simp
        clear hg6
        by_cases hk0 : k = 0
        · subst hk0
          have HP : Hid (Ltr.bracedF a t = ([], 0, 4)) := Lib.hid (by unfold Ltr.bracedF; rw [Ltr.pointF_bad t (by rw [HM.out]; omega)]; rfl)
          have g6 : decide ((a : Int) + 1 < (a : Int) + 7) = true := by simp
          clear ways6
          go_wp2_with (go_at_call 37; refine (HD.out _).mono ?_; rintro e w1 ⟨rfl, rfl⟩)
          go_ret3
          exact retE_mk HP.out (Below.refl _ _)
        · have e2 : ((a : Int) + 1 + (k : Int) == (a : Int) + 1) = false := by simp; omega
          have e3 : ((k : Int) == 0) = false := by simp; omega
          have e4 : decide ((L.length : Int) ≤ (a : Int) + 1 + (k : Int)) = false := by simp; omega
          by_cases h125 : c = 125
          · have s1 : ((c.toNat : Int) != 125) = false := by subst h125; rfl
            rw [h125] at HX
            clear h125
            have hP : Ltr.bracedF a t = if Lib.validRune (N : Int) then (Lib.encodeRune (N : Int), (a : Int) + (k : Int) + 2, 0) else ([], 0, 9) := by
              have := Ltr.pointF_ok t (by rw [HM.out]; exact hk0) (by rw [HM.out]; exact hk6) (by rw [HM.out]; exact HX.out)
              rw [HM.out, HN.out] at this
              unfold Ltr.bracedF
              rw [this]
              cases Lib.validRune (N : Int) with
              | false => rfl
              | true => simp; omega
            have hw1 : IntKind.i32.wrap (N : Int) = (N : Int) := by rw [IntKind.wrap_i32]; omega
            have hPut := rput_one (N : Int) (by omega) (by omega)
            cases hval : Lib.validRune (N : Int) with
            | false =>
              rw [hval] at hP
              have HP := Lib.hid hP
              unfold RetPut at hPut
              rw [hval] at hPut
              have HU := Lib.hid hPut
              clear hP hPut hval
              rcases ways6 with g6 | g6
              all_goals
                go_wp2_with (first
                  | (go_at_call 37; refine (HD.out _).mono ?_; rintro e w1 ⟨rfl, rfl⟩)
                  | (go_at_call 43; refine (HU.out _ _ _ (by simp) (by simp)).mono ?_; rintro e w2 ⟨rfl, hb2⟩))
                go_ret3
                exact retE_mk (HP.out.trans (if_neg (by decide))) (((Below.refl _ _).alloc (Nat.le_refl _) _).trans (hb2.mono (by simp)))
            | true =>
              rw [hval] at hP
              rw [if_pos rfl] at hP
              unfold RetPut at hPut
              rw [hval] at hPut
              obtain ⟨E, hE⟩ : ∃ E, Lib.encodeRune (N : Int) = E := ⟨_, rfl⟩
              rw [hE] at hP hPut
              have HP := Lib.hid hP
              have HU : Hid (∀ (ad : Addr) (c : Nat) (w : World), w.cell? ad = some (.int .i32 (N : Int)) → ad.block < w.heap.size → Calls Tryd.prog 43 #[.slice (some ad) 1 c] w fun e w' => e = .returned (.tuple #[.string ⟨E.toArray⟩, .bool true]) ∧ Below w.heap.size w w') := Lib.hid hPut
              clear hP hPut hval hE
              rcases ways6 with g6 | g6
              all_goals
                go_wp2_with (first
                  | (go_at_call 37; refine (HD.out _).mono ?_; rintro e w1 ⟨rfl, rfl⟩)
                  | (go_at_call 43; refine (HU.out _ _ _ (by simp) (by simp)).mono ?_; rintro e w2 ⟨rfl, hb2⟩))
                go_ret3
                exact retE_mk (HP.out.trans (by congr 2; omega)) (((Below.refl _ _).alloc (Nat.le_refl _) _).trans (hb2.mono (by simp)))
          · have s1 := lcne' c 125 (by omega) h125
            simp only [Int.cast_ofNat_Int] at s1
            have HP : Hid (Ltr.bracedF a t = ([], 0, 4)) := Lib.hid (by unfold Ltr.bracedF; rw [Ltr.pointF_bad t (by rw [HM.out]; exact .inr (.inr (by rw [HX.out]; simpa using h125)))]; rfl)
            clear h125
            rcases ways6 with g6 | g6
            all_goals
              go_wp2_with (go_at_call 37; refine (HD.out _).mono ?_; rintro e w1 ⟨rfl, rfl⟩)
              go_ret3
              exact retE_mk HP.out (Below.refl _ _)
    · have hke : k = t.length := by have := HH.out; have := HM.out; omega
      have hge : (L.length : Int) ≤ (a : Int) + 1 + (k : Int) := by have := HLT.out; omega
      have HP : Hid (Ltr.bracedF a t = ([], 0, 4)) := Lib.hid (by
        have hkm : k = m := by have := HH.out; have := HM.out; omega
        unfold Ltr.bracedF; rw [Ltr.pointF_bad t (by rw [HM.out]; exact .inr (.inr (by rw [List.drop_eq_nil_of_le (by omega)]; simp)))]; rfl)
      clear hke
      go_wp2_with fail
      all_goals
        go_ret3
        exact retE_mk HP.out (Below.refl _ _)
end Go.Proofs.YtpmalmednkknpaaDoor
