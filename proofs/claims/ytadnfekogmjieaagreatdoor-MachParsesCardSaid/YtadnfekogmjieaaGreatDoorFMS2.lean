/-
  Layer 51: mach's told and what it calls. (Printed by gen_ms2.py.)
-/
import Derived.Test.YtadnfekogmjieaaGreatDoorFMS1
set_option linter.unusedVariables false
set_option linter.unusedSimpArgs false
namespace Go.Proofs.YtadnfekogmjieaaGreatDoor
open Go.RowKit
open Mc (Pl Mi Mf)
theorem tfarP_any (p : Pl) (w : World) : Calls Tryz.prog 122 #[.agg #[.bool p.slot, .int .i64 p.n]] w fun e w' => e = .returned (.bool (Mc.far p)) ∧ Below w.heap.size w w' := by
  have HC := Lib.hid (fun W => index_any p.n W)
  have HB := Lib.hid ((Below.refl w.heap.size w).alloc (Nat.le_refl _) (.cells #[.bool p.slot, .int .i64 p.n] 64))
  go_enter Tryz.func122, Tryz.ntmps122
  go_wp2_with (go_at_call 65; with_reducible refine (HC.out _).mono ?_; rintro e w1 ⟨rfl, rfl⟩)
  go_ret
  exact ⟨rfl, HB.out⟩
theorem tfarN_any (n : Int) (w : World) : Calls Tryz.prog 123 #[.int .i64 n] w fun e w' => e = .returned (.bool (Mc.farN n)) ∧ w = w' := by
  have HC := Lib.hid (index_any n w)
  go_enter Tryz.func123, Tryz.ntmps123
  go_wp2_with (go_at_call 65; with_reducible refine HC.out.mono ?_; rintro e w1 ⟨rfl, rfl⟩)
  go_ret
  exact ⟨rfl, rfl⟩

set_option maxHeartbeats 2000000 in
set_option maxRecDepth 100000 in
theorem anyFarP_idx (S : Nat → Prop) (A : Option Addr) (c : Nat) (l : List Pl) (hl : l.length ≤ 1000000) (w : World) (h : RdP w S A l) :
    Calls Tryz.prog 147 #[.slice A l.length c, .func (.func 122) #[] #[]] w fun e w' => (∃ z : Int, e = .returned (.int .i64 z) ∧ decide (0 ≤ z) = l.any Mc.far) ∧ Below w.heap.size w w' := by
  obtain ⟨R, hR⟩ : ∃ R, l.any Mc.far = R := ⟨_, rfl⟩
  rw [hR]
  have HR : Hid (((l.drop 0).any Mc.far) = R) := Lib.hid hR
  clear hR
  go_enter Tryz.func147, Tryz.ntmps147
  go_wp2
  go_loopw [8] (fun iv wr => ∃ i : Nat, iv = .int .i64 (i : Int) ∧ i ≤ l.length ∧ Hid (((l.drop i).any Mc.far) = R) ∧ Below w.heap.size w wr) (fun iv _ => l.length - (intOf iv).toNat)
  case atStart => exact ⟨0, rfl, by omega, HR, Below.refl _ _⟩
  case round =>
    clear HR
    obtain ⟨i, rfl, hi, HR, hB⟩ := hrel
    by_cases hia : i < l.length
    · have x0 : (i : Int) < (l.length : Int) := by omega
      have x1 : (0 : Int) ≤ (i : Int) := by omega
      obtain ⟨g, o, rfl, -, -, f0, f1⟩ := (RdP.on h hB).get hia
      have hd := HR.out
      rw [List.drop_eq_getElem_cons hia, List.any_cons] at hd
      obtain ⟨p, hp⟩ : ∃ p, l[i] = p := ⟨_, rfl⟩
      rw [hp] at hd f0 f1
      clear hp HR
      have HB := Lib.hid hB
      clear hB
      rcases hq : Mc.far p with _ | _
      · rw [hq, Bool.false_or] at hd
        have HD := Lib.hid hd
        clear hd
        have hq' := Lib.hid hq
        clear hq
        go_wp2_with (go_at_call 122; refine (tfarP_any p _).mono ?_; rintro e w1 ⟨rfl, hb⟩; rw [hq'.out])
        go_roundw
        case rel => exact ⟨i + 1, by go_num, by omega, HD, HB.out.trans (hb.mono HB.out.size)⟩
        case measure => simp [intOf] <;> omega
      · rw [hq, Bool.true_or] at hd
        have HD := Lib.hid hd
        clear hd
        have hq' := Lib.hid hq
        clear hq
        go_wp2_with (go_at_call 122; refine (tfarP_any p _).mono ?_; rintro e w1 ⟨rfl, hb⟩; rw [hq'.out])
        go_ret
        exact ⟨⟨_, rfl, by rw [← HD.out]; simp⟩, HB.out.trans (hb.mono HB.out.size)⟩
    · have hi2 : i = l.length := by omega
      subst hi2
      have x0 : ¬ (l.length : Int) < (l.length : Int) := by omega
      have hd := HR.out
      rw [List.drop_length] at hd
      have HD := Lib.hid hd
      clear hd HR
      go_wp2
      go_ret
      exact ⟨⟨_, rfl, by rw [← HD.out]; simp⟩, hB⟩
theorem anyFarP_any (S : Nat → Prop) (A : Option Addr) (c : Nat) (l : List Pl) (hl : l.length ≤ 1000000) (w : World) (h : RdP w S A l) :
    Calls Tryz.prog 107 #[.slice A l.length c, .func (.func 122) #[] #[]] w fun e w' => e = .returned (.bool (l.any Mc.far)) ∧ Below w.heap.size w w' := by
  have HC := Lib.hid (anyFarP_idx S A c l hl w h)
  go_enter Tryz.func107, Tryz.ntmps107
  go_wp2_with (go_at_call 147; with_reducible refine HC.out.mono ?_; rintro e w1 ⟨⟨z, rfl, hz⟩, hb⟩)
  go_ret
  exact ⟨by rw [← hz]; rfl, hb⟩

set_option maxHeartbeats 2000000 in
set_option maxRecDepth 100000 in
theorem anyFarN_idx (S : Nat → Prop) (A : Option Addr) (c : Nat) (l : List Int) (hl : l.length ≤ 1000000) (w : World) (h : RdZ w S A l) :
    Calls Tryz.prog 110 #[.slice A l.length c, .func (.func 123) #[] #[]] w fun e w' => (∃ z : Int, e = .returned (.int .i64 z) ∧ decide (0 ≤ z) = l.any Mc.farN) ∧ Below w.heap.size w w' := by
  obtain ⟨R, hR⟩ : ∃ R, l.any Mc.farN = R := ⟨_, rfl⟩
  rw [hR]
  have HR : Hid (((l.drop 0).any Mc.farN) = R) := Lib.hid hR
  clear hR
  go_enter Tryz.func110, Tryz.ntmps110
  go_wp2
  go_loopw [8] (fun iv wr => ∃ i : Nat, iv = .int .i64 (i : Int) ∧ i ≤ l.length ∧ Hid (((l.drop i).any Mc.farN) = R) ∧ Below w.heap.size w wr) (fun iv _ => l.length - (intOf iv).toNat)
  case atStart => exact ⟨0, rfl, by omega, HR, Below.refl _ _⟩
  case round =>
    clear HR
    obtain ⟨i, rfl, hi, HR, hB⟩ := hrel
    by_cases hia : i < l.length
    · have x0 : (i : Int) < (l.length : Int) := by omega
      have x1 : (0 : Int) ≤ (i : Int) := by omega
      obtain ⟨g, o, rfl, -, -, f0'⟩ := (RdZ.on h hB).get hia
      have f0 : wr.cell? ⟨g, o + i, none⟩ = some (.int .i64 l[i]) := by simpa [ZAt] using f0'
      clear f0'
      have hd := HR.out
      rw [List.drop_eq_getElem_cons hia, List.any_cons] at hd
      obtain ⟨p, hp⟩ : ∃ p, l[i] = p := ⟨_, rfl⟩
      rw [hp] at hd f0
      clear hp HR
      have HB := Lib.hid hB
      clear hB
      rcases hq : Mc.farN p with _ | _
      · rw [hq, Bool.false_or] at hd
        have HD := Lib.hid hd
        clear hd
        have hq' := Lib.hid hq
        clear hq
        go_wp2_with (go_at_call 123; refine (tfarN_any p _).mono ?_; rintro e w1 ⟨rfl, rfl⟩; have hb := Below.refl wr.heap.size wr; rw [hq'.out])
        go_roundw
        case rel => exact ⟨i + 1, by go_num, by omega, HD, HB.out.trans (hb.mono HB.out.size)⟩
        case measure => simp [intOf] <;> omega
      · rw [hq, Bool.true_or] at hd
        have HD := Lib.hid hd
        clear hd
        have hq' := Lib.hid hq
        clear hq
        go_wp2_with (go_at_call 123; refine (tfarN_any p _).mono ?_; rintro e w1 ⟨rfl, rfl⟩; have hb := Below.refl wr.heap.size wr; rw [hq'.out])
        go_ret
        exact ⟨⟨_, rfl, by rw [← HD.out]; simp⟩, HB.out.trans (hb.mono HB.out.size)⟩
    · have hi2 : i = l.length := by omega
      subst hi2
      have x0 : ¬ (l.length : Int) < (l.length : Int) := by omega
      have hd := HR.out
      rw [List.drop_length] at hd
      have HD := Lib.hid hd
      clear hd HR
      go_wp2
      go_ret
      exact ⟨⟨_, rfl, by rw [← HD.out]; simp⟩, hB⟩
theorem anyFarN_any (S : Nat → Prop) (A : Option Addr) (c : Nat) (l : List Int) (hl : l.length ≤ 1000000) (w : World) (h : RdZ w S A l) :
    Calls Tryz.prog 60 #[.slice A l.length c, .func (.func 123) #[] #[]] w fun e w' => e = .returned (.bool (l.any Mc.farN)) ∧ Below w.heap.size w w' := by
  have HC := Lib.hid (anyFarN_idx S A c l hl w h)
  go_enter Tryz.func60, Tryz.ntmps60
  go_wp2_with (go_at_call 110; with_reducible refine HC.out.mono ?_; rintro e w1 ⟨⟨z, rfl, hz⟩, hb⟩)
  go_ret
  exact ⟨by rw [← hz]; rfl, hb⟩
end Go.Proofs.YtadnfekogmjieaaGreatDoor
