/-
  The reference's Name.
-/
import Derived.Test.YtpmalmednkknpaaDoorLitName
set_option linter.unusedVariables false
namespace Go.Proofs.YtpmalmednkknpaaDoor
open Go.RowKit
attribute [local go_sem] ByteArray.extract_mk

set_option maxHeartbeats 1000000 in
set_option maxRecDepth 100000 in
theorem rname_any (l : List UInt8) (w : World) (hl : l.length ≤ 9223372036854775807) : Calls Tryd.prog 23 #[.string ⟨l.toArray⟩] w fun e w' => e = .returned (.bool (Ltr.name l)) ∧ w = w' := by
  by_cases h2 : 2 ≤ l.length
  · obtain ⟨c, r, hcr, hc0⟩ := name_head h2
    have hb0 := lba_get l 0 (by omega) c hc0
    have g1 : decide ((l.length : Int) < 2) = false := by simp; omega
    have i0 : (0 : Int) < (l.length : Int) := by omega
    by_cases hc : c = 36
    · subst hc
      have HV : Hid (Ltr.name l = l.all Ltr.sign) := by
        have hd : decide (2 ≤ l.length) = true := by simpa using h2
        unfold Hid
        rw [Ltr.name, hd, hcr]
        simp
      have HT1 : Hid ((l.take 1).all Ltr.sign = true) := Lib.hid (by rw [hcr]; rfl)
      clear hcr
      go_enter Tryd.func23, Tryd.ntmps23
      go_wp2_with fail
      go_loopw [3] (fun i wr => ∃ k : Nat, k ≤ l.length ∧ i = .int .i64 k ∧ (l.take k).all Ltr.sign = true ∧ wr = w) (fun i _ => l.length - (intOf i).toNat)
      case atStart => exact ⟨1, by omega, rfl, HT1.out, rfl⟩
      case round =>
        obtain ⟨k, hk, rfl, hall, rfl⟩ := hrel
        by_cases hkl : k < l.length
        · obtain ⟨d, hd⟩ : ∃ d, l[k] = d := ⟨_, rfl⟩
          have hb := lba_get l k hkl d hd
          have k0 : (0 : Int) ≤ (k : Int) := Int.natCast_nonneg _
          have k1 : (k : Int) < (l.length : Int) := by omega
          have hs := all_take_succ l k hkl d hd Ltr.sign
          have hn := fun h => all_no (f := Ltr.sign) hkl hd h
          have HS := Lib.hid hs
          have HN := Lib.hid hn
          have HA := Lib.hid hall
          clear hs hn hall hd
          rcases hv : Ltr.sign d with _ | _
          all_goals
            have HD := Lib.hid hv
            clear hv
          · go_wp2_with (go_at_call 31; refine (rsign_any _ _).mono ?_; rintro e w1 ⟨rfl, rfl⟩; rw [HD.out])
            go_ret
            exact ⟨by rw [HV.out, HN.out HD.out]; rfl, rfl⟩
          · go_wp2_with (go_at_call 31; refine (rsign_any _ _).mono ?_; rintro e w1 ⟨rfl, rfl⟩; rw [HD.out])
            go_roundw
            case rel => exact ⟨k + 1, by omega, by go_num, by rw [HS.out, HA.out, HD.out]; rfl, by first | rfl | trivial⟩
            case measure => simp [intOf]; omega
        · obtain rfl : k = l.length := by omega
          rw [List.take_length] at hall
          have HA := Lib.hid hall
          clear hall
          go_wp2_with fail
          go_ret
          exact ⟨by rw [HV.out, HA.out]; rfl, rfl⟩
    · have HV : Hid (Ltr.name l = false) := by unfold Hid Ltr.name; rw [hcr]; simp [hc]
      have n1 := lcne' c 36 (by omega) hc
      simp only [Int.cast_ofNat_Int] at n1
      clear hcr hc
      go_enter Tryd.func23, Tryd.ntmps23
      go_wp2_with fail
      go_ret
      exact ⟨by rw [HV.out]; rfl, rfl⟩
  · have HV : Hid (Ltr.name l = false) := by unfold Hid Ltr.name; simp [h2]
    have g1 : decide ((l.length : Int) < 2) = true := by simp; omega
    go_enter Tryd.func23, Tryd.ntmps23
    go_wp2_with fail
    go_ret
    exact ⟨by rw [HV.out]; rfl, rfl⟩
end Go.Proofs.YtpmalmednkknpaaDoor
