/-
  Identifiers: literal's sign and Name, the reference's Sign and Name.
-/
import Derived.Test.YtpmalmednkknpaaDoorWords
set_option linter.unusedVariables false
namespace Go.Proofs.YtpmalmednkknpaaDoor
open Go.RowKit
attribute [local go_sem] ByteArray.extract_mk

namespace Ltr
def sign (c : UInt8) : Bool := 32 < c.toNat && c.toNat < 127 && c != 40 && c != 41 && c != 34 && c != 59 && c != 44
def name (s : List UInt8) : Bool := decide (2 ≤ s.length) && s.head? == some 36 && s.all sign
end Ltr
theorem lcne (c : UInt8) (n : Nat) (hn : n < 256) (h : c ≠ UInt8.ofNat n) : ((c.toNat : Int) == (n : Int)) = false := by
  have : ¬ (c.toNat : Int) = (n : Int) := by
    intro e
    apply h
    have e2 : c.toNat = n := by omega
    rw [← e2]
    simp
  simpa using this
theorem lcne' (c : UInt8) (n : Nat) (hn : n < 256) (h : c ≠ UInt8.ofNat n) : ((c.toNat : Int) != (n : Int)) = true := by
  rw [bne, lcne c n hn h]; rfl
theorem lba_get (l : List UInt8) (k : Nat) (h : k < l.length) (c : UInt8) (hc : l[k] = c) : (ByteArray.mk l.toArray)[k]'(by show k < l.toArray.size; simpa using h) = c := by rw [← hc]; rfl

set_option maxHeartbeats 1000000 in
set_option maxRecDepth 100000 in
theorem lsign_any (c : UInt8) (w : World) : Calls Tryd.prog 30 #[.int .u8 (c.toNat : Int)] w fun e w' => e = .returned (.bool (Ltr.sign c)) ∧ w = w' := by
  by_cases h3 : c = 40 ∨ c = 41 ∨ c = 34 ∨ c = 59 ∨ c = 44
  · have hv : Hid (Ltr.sign c = false) := by unfold Hid; rcases h3 with rfl | rfl | rfl | rfl | rfl <;> rfl
    rcases h3 with rfl | rfl | rfl | rfl | rfl
    all_goals
      go_enter Tryd.func30, Tryd.ntmps30
      go_wp2
      go_ret
      exact ⟨by rw [hv.out]; rfl, rfl⟩
  · have hn : c ≠ 40 ∧ c ≠ 41 ∧ c ≠ 34 ∧ c ≠ 59 ∧ c ≠ 44 := by simpa using h3
    have n1 := lcne c 40 (by omega) hn.1
    have n2 := lcne c 41 (by omega) hn.2.1
    have n3 := lcne c 34 (by omega) hn.2.2.1
    have n4 := lcne c 59 (by omega) hn.2.2.2.1
    have n5 := lcne c 44 (by omega) hn.2.2.2.2
    simp only [Int.cast_ofNat_Int] at n1 n2 n3 n4 n5
    by_cases h1 : 33 ≤ c.toNat
    · by_cases h2 : c.toNat ≤ 126
      · have hv : Hid (Ltr.sign c = true) := by unfold Hid Ltr.sign; simp [hn]; omega
        clear h3 hn
        go_enter Tryd.func30, Tryd.ntmps30
        go_wp2
        go_ret
        exact ⟨by rw [hv.out]; simp; try omega, rfl⟩
      · have hv : Hid (Ltr.sign c = false) := by unfold Hid Ltr.sign; simp; omega
        clear h3 hn
        go_enter Tryd.func30, Tryd.ntmps30
        go_wp2
        go_ret
        exact ⟨by rw [hv.out]; simp; try omega, rfl⟩
    · have hv : Hid (Ltr.sign c = false) := by unfold Hid Ltr.sign; simp; omega
      clear h3 hn
      go_enter Tryd.func30, Tryd.ntmps30
      go_wp2
      go_ret
      exact ⟨by rw [hv.out]; simp; try omega, rfl⟩

set_option maxHeartbeats 1000000 in
set_option maxRecDepth 100000 in
theorem rsign_any (c : UInt8) (w : World) : Calls Tryd.prog 31 #[.int .u8 (c.toNat : Int)] w fun e w' => e = .returned (.bool (Ltr.sign c)) ∧ w = w' := by
  by_cases h1 : 33 ≤ c.toNat
  · by_cases h2 : c.toNat ≤ 126
    · by_cases h3 : c = 40 ∨ c = 41 ∨ c = 34 ∨ c = 59 ∨ c = 44
      · have hv : Hid (Ltr.sign c = false) := by unfold Hid; rcases h3 with rfl | rfl | rfl | rfl | rfl <;> rfl
        rcases h3 with rfl | rfl | rfl | rfl | rfl
        all_goals
          go_enter Tryd.func31, Tryd.ntmps31
          go_wp2
          go_ret
          exact ⟨by rw [hv.out]; rfl, rfl⟩
      · have hn : c ≠ 40 ∧ c ≠ 41 ∧ c ≠ 34 ∧ c ≠ 59 ∧ c ≠ 44 := by simpa using h3
        have hv : Hid (Ltr.sign c = true) := by unfold Hid Ltr.sign; simp [hn]; omega
        have n1 := lcne' c 40 (by omega) hn.1
        have n2 := lcne' c 41 (by omega) hn.2.1
        have n3 := lcne' c 34 (by omega) hn.2.2.1
        have n4 := lcne' c 59 (by omega) hn.2.2.2.1
        have n5 := lcne' c 44 (by omega) hn.2.2.2.2
        simp only [Int.cast_ofNat_Int] at n1 n2 n3 n4 n5
        clear h3 hn
        go_enter Tryd.func31, Tryd.ntmps31
        go_wp2
        go_ret
        exact ⟨by rw [hv.out]; simp, rfl⟩
    · have hv : Hid (Ltr.sign c = false) := by unfold Hid Ltr.sign; simp; omega
      go_enter Tryd.func31, Tryd.ntmps31
      go_wp2
      go_ret
      exact ⟨by rw [hv.out]; simp, rfl⟩
  · have hv : Hid (Ltr.sign c = false) := by unfold Hid Ltr.sign; simp; omega
    go_enter Tryd.func31, Tryd.ntmps31
    go_wp2
    go_ret
    exact ⟨by rw [hv.out]; simp, rfl⟩

theorem name_head {l : List UInt8} (h : 2 ≤ l.length) : ∃ c r, l = c :: r ∧ l[0]'(by omega) = c := by
  match l, h with
  | c :: r, _ => exact ⟨c, r, rfl, rfl⟩
theorem all_take_succ (l : List UInt8) (k : Nat) (h : k < l.length) (c : UInt8) (hc : l[k] = c) (f : UInt8 → Bool) : (l.take (k + 1)).all f = ((l.take k).all f && f c) := by
  rw [List.take_succ_eq_append_getElem h, List.all_append, hc]; simp
theorem all_no {l : List UInt8} {k : Nat} (h : k < l.length) {c : UInt8} (hc : l[k] = c) {f : UInt8 → Bool} (hf : f c = false) : l.all f = false := by
  rw [List.all_eq_false]
  exact ⟨c, hc ▸ List.getElem_mem h, by simp [hf]⟩

set_option maxHeartbeats 1000000 in
set_option maxRecDepth 100000 in
theorem lname_any (l : List UInt8) (w : World) (hl : l.length ≤ 9223372036854775807) : Calls Tryd.prog 22 #[.string ⟨l.toArray⟩] w fun e w' => e = .returned (.bool (Ltr.name l)) ∧ w = w' := by
  by_cases h2 : 2 ≤ l.length
  · obtain ⟨c, r, hcr, hc0⟩ := name_head h2
    have hb0 := lba_get l 0 (by omega) c hc0
    have g1 : decide ((l.length : Int) < 2) = false := by simp; omega
    have i0 : (0 : Int) < (l.length : Int) := by omega
    by_cases hc : c = 36
    · subst hc
      have HV : Hid (Ltr.name l = l.all Ltr.sign) := by
        have hd : decide (2 ≤ l.length) = true := by simpa using h2
        unfold Hid
        rw [Ltr.name, hd, hcr]
        simp
      clear hcr
      go_enter Tryd.func22, Tryd.ntmps22
      go_wp2_with fail
      go_loopw [14] (fun i wr => ∃ k : Nat, k ≤ l.length ∧ i = .int .i64 k ∧ (l.take k).all Ltr.sign = true ∧ wr = w) (fun i _ => l.length - (intOf i).toNat)
      case atStart => exact ⟨0, by omega, rfl, rfl, rfl⟩
      case round =>
        obtain ⟨k, hk, rfl, hall, rfl⟩ := hrel
        by_cases hkl : k < l.length
        · obtain ⟨d, hd⟩ : ∃ d, l[k] = d := ⟨_, rfl⟩
          have hb := lba_get l k hkl d hd
          have k0 : (0 : Int) ≤ (k : Int) := Int.natCast_nonneg _
          have k1 : (k : Int) < (l.length : Int) := by omega
          have hs := all_take_succ l k hkl d hd Ltr.sign
          have hn := fun h => all_no (f := Ltr.sign) hkl hd h
          have HS := Lib.hid hs
          have HN := Lib.hid hn
          have HA := Lib.hid hall
          clear hs hn hall hd
          rcases hv : Ltr.sign d with _ | _
          all_goals
            have HD := Lib.hid hv
            clear hv
          · go_wp2_with (go_at_call 30; refine (lsign_any _ _).mono ?_; rintro e w1 ⟨rfl, rfl⟩; rw [HD.out])
            go_ret
            exact ⟨by rw [HV.out, HN.out HD.out]; rfl, rfl⟩
          · go_wp2_with (go_at_call 30; refine (lsign_any _ _).mono ?_; rintro e w1 ⟨rfl, rfl⟩; rw [HD.out])
            go_roundw
            case rel => exact ⟨k + 1, by omega, by go_num, by rw [HS.out, HA.out, HD.out]; rfl, by first | rfl | trivial⟩
            case measure => simp [intOf]; omega
        · obtain rfl : k = l.length := by omega
          rw [List.take_length] at hall
          have HA := Lib.hid hall
          clear hall
          go_wp2_with fail
          go_ret
          exact ⟨by rw [HV.out, HA.out]; rfl, rfl⟩
    · have HV : Hid (Ltr.name l = false) := by unfold Hid Ltr.name; rw [hcr]; simp [hc]
      have n1 := lcne' c 36 (by omega) hc
      simp only [Int.cast_ofNat_Int] at n1
      clear hcr hc
      go_enter Tryd.func22, Tryd.ntmps22
      go_wp2_with fail
      go_ret
      exact ⟨by rw [HV.out]; rfl, rfl⟩
  · have HV : Hid (Ltr.name l = false) := by unfold Hid Ltr.name; simp [h2]
    have g1 : decide ((l.length : Int) < 2) = true := by simp; omega
    go_enter Tryd.func22, Tryd.ntmps22
    go_wp2_with fail
    go_ret
    exact ⟨by rw [HV.out]; rfl, rfl⟩
end Go.Proofs.YtpmalmednkknpaaDoor
