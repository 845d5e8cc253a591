/-
  Layer 51: mach's within, index, spare. (Printed by gen_ms1.py.)
-/
import Derived.Test.YtadnfekogmjieaaGreatDoorGGF
set_option linter.unusedVariables false
set_option linter.unusedSimpArgs false
namespace Go.Proofs.YtadnfekogmjieaaGreatDoor
open Go.RowKit
open Mc (Pl Mi Mf)
theorem within_any (n m : Int) (w : World) : Calls Tryz.prog 24 #[.int .i64 n, .int .i64 m] w fun e w' => e = .returned (.bool (Mc.within n m)) ∧ w = w' := by
  unfold Mc.within
  rcases h1 : decide (0 ≤ n) with _ | _ <;> rcases h2 : decide (n ≤ m) with _ | _
  all_goals
    go_enter Tryz.func24, Tryz.ntmps24
    go_wp2
    go_ret
    exact ⟨rfl, rfl⟩
theorem index_any (n : Int) (w : World) : Calls Tryz.prog 65 #[.int .i64 n] w fun e w' => e = .returned (.bool (Mc.index n)) ∧ w = w' := by
  have HC := Lib.hid (within_any n 4294967295 w)
  go_enter Tryz.func65, Tryz.ntmps65
  go_wp2_with (go_at_call 24; with_reducible refine HC.out.mono ?_; rintro e w1 ⟨rfl, rfl⟩)
  go_ret
  exact ⟨rfl, rfl⟩
theorem within_nat {k : Int} (h : Mc.within k 23 = true) : ∃ n : Nat, k = n ∧ n ≤ 23 := by
  unfold Mc.within at h
  simp at h
  exact ⟨k.toNat, by omega, by omega⟩
set_option maxHeartbeats 16000000 in
set_option maxRecDepth 100000 in
theorem spare_any (x : Mi) (D : Option Addr) (c1 : Nat) (E : Option Addr) (c2 : Nat) (T : Option Addr) (c3 : Nat) (w : World) (hR : Rws w) :
    Calls Tryz.prog 55 #[.agg (miV x D c1 E c2 T c3)] w fun e w' => e = .returned (.bool (Mc.spare x)) ∧ Below w.heap.size w w' := by
  have HW := Lib.hid (fun W => within_any x.kind 23 W)
  have hs : Mc.spare x = (Mc.within x.kind 23 && Mc.spareR (Mc.row x.kind) x) := rfl
  obtain ⟨kind, op, a, b, n, d, s, tos, trap⟩ := x
  unfold miV
  dsimp only at *
  have b1 := (Below.refl w.heap.size w).alloc (Nat.le_refl _) (.cells #[.int .i64 kind, .int .i64 op, .int .i64 a, .int .i64 b, .int .u64 (n : Int), .slice D d.length c1, .slice E s.length c2, .slice T tos.length c3, .int .i64 trap] 61)
  rcases hk : Mc.within kind 23 with _ | _
  · rw [hk] at HW hs
    have HS := Lib.hid hs
    have HB := Lib.hid b1
    clear hs hR b1 hk
    go_enter Tryz.func55, Tryz.ntmps55
    go_wp2_with (go_at_call 24; with_reducible refine (HW.out _).mono ?_; rintro e w1 ⟨rfl, rfl⟩)
    go_ret
    exact ⟨by rw [HS.out]; rfl, HB.out⟩
  obtain ⟨k, rfl, hk23⟩ := within_nat hk
  obtain ⟨r0, r1, r2, r3, r4, r5⟩ := (hR.below b1).at_ hk23
  rw [hk] at HW hs
  obtain ⟨⟨rw, ro, ra, rb, rn, rt⟩, hrow⟩ : ∃ r, Mc.row (k : Int) = r := ⟨_, rfl⟩
  rw [hrow] at r0 r1 r2 r3 r4 r5 hs
  dsimp only at r0 r1 r2 r3 r4 r5
  have HS := Lib.hid hs
  have b2 := b1.alloc b1.size (.cells #[.string ⟨rw.toArray⟩, .bool ro, .bool ra, .bool rb, .bool rn, .bool rt] 143)
  have x0 : (0 : Int) ≤ (k : Int) := by omega
  have x1 : (k : Int) < 24 := by omega
  have v1 := Var.new w #[.int .i64 (k : Int), .int .i64 op, .int .i64 a, .int .i64 b, .int .u64 (n : Int), .slice D d.length c1, .slice E s.length c2, .slice T tos.length c3, .int .i64 trap] 61
  have HB := Lib.hid b2
  have HV := Lib.hid v1
  clear hs hR b1 hk b2 v1 hrow
  go_enter Tryz.func55, Tryz.ntmps55
  go_upto_region 4 with (go_at_call 24; with_reducible refine (HW.out _).mono ?_; rintro e w1 ⟨rfl, rfl⟩)
  refine at_code (F := fun W => Var W w.heap.size #[.int .i64 (k : Int), .int .i64 op, .int .i64 a, .int .i64 b, .int .u64 (n : Int), .slice D d.length c1, .slice E s.length c2, .slice T tos.length c3, .int .i64 trap] 61 ∧ Var W (w.heap.size + 1) #[.string ⟨rw.toArray⟩, .bool ro, .bool ra, .bool rb, .bool rn, .bool rt] 143 ∧ Hid (Below w.heap.size w W)) ?h ?_
  case h => exact ⟨HV.out.alloc _, Var.newE _ _ _ (by simp), HB⟩
  rintro W ⟨v1, v2, HBW⟩
  obtain ⟨a0, a1, a2, a3, a4, a5, a6, a7, a8⟩ := cells9 v1
  have k0 := v2.cells 0
  have k1 := v2.cells 1
  have k2 := v2.cells 2
  have k3 := v2.cells 3
  have k4 := v2.cells 4
  have k5 := v2.cells 5
  simp only [List.getElem?_toArray, List.getElem?_cons_zero, List.getElem?_cons_succ] at k0 k1 k2 k3 k4 k5
  clear v1 v2 HV HW r0 r1 r2 r3 r4 r5 x0 x1 a5 a6 a7 k0
  rcases ro with _ | _
  · rcases q0 : (op == 0) with _ | _
    · skip
      have HR : Hid (Mc.spareR ⟨rw, false, ra, rb, rn, rt⟩ ⟨(k : Int), op, a, b, n, d, s, tos, trap⟩ = false) := Lib.hid (by simp [Mc.spareR, q0])
      rw [HR.out] at HS
      go_wp2
      go_ret
      exact ⟨by rw [HS.out]; rfl, HBW.out⟩
    · skip
      rcases ra with _ | _
      · rcases q1 : (a == 0) with _ | _
        · skip
          have HR : Hid (Mc.spareR ⟨rw, false, false, rb, rn, rt⟩ ⟨(k : Int), op, a, b, n, d, s, tos, trap⟩ = false) := Lib.hid (by simp [Mc.spareR, q0, q1])
          rw [HR.out] at HS
          go_wp2
          go_ret
          exact ⟨by rw [HS.out]; rfl, HBW.out⟩
        · skip
          rcases rb with _ | _
          · rcases q2 : (b == 0) with _ | _
            · skip
              have HR : Hid (Mc.spareR ⟨rw, false, false, false, rn, rt⟩ ⟨(k : Int), op, a, b, n, d, s, tos, trap⟩ = false) := Lib.hid (by simp [Mc.spareR, q0, q1, q2])
              rw [HR.out] at HS
              go_wp2
              go_ret
              exact ⟨by rw [HS.out]; rfl, HBW.out⟩
            · skip
              rcases rn with _ | _
              · rcases q3 : ((n : Int) == 0) with _ | _
                · skip
                  have p3 : (n == 0) = false := by rw [← q3, Bool.eq_iff_iff, beq_iff_eq, beq_iff_eq]; omega
                  have HR : Hid (Mc.spareR ⟨rw, false, false, false, false, rt⟩ ⟨(k : Int), op, a, b, n, d, s, tos, trap⟩ = false) := Lib.hid (by simp [Mc.spareR, q0, q1, q2, p3])
                  rw [HR.out] at HS
                  go_wp2
                  go_ret
                  exact ⟨by rw [HS.out]; rfl, HBW.out⟩
                · skip
                  have p3 : (n == 0) = true := by rw [← q3, Bool.eq_iff_iff, beq_iff_eq, beq_iff_eq]; omega
                  rcases rt with _ | _
                  · rcases q4 : (trap == 0) with _ | _
                    · skip
                      have HR : Hid (Mc.spareR ⟨rw, false, false, false, false, false⟩ ⟨(k : Int), op, a, b, n, d, s, tos, trap⟩ = false) := Lib.hid (by simp [Mc.spareR, q0, q1, q2, p3, q4])
                      rw [HR.out] at HS
                      go_wp2
                      go_ret
                      exact ⟨by rw [HS.out]; rfl, HBW.out⟩
                    · skip
                      have HR : Hid (Mc.spareR ⟨rw, false, false, false, false, false⟩ ⟨(k : Int), op, a, b, n, d, s, tos, trap⟩ = true) := Lib.hid (by simp [Mc.spareR, q0, q1, q2, p3, q4])
                      rw [HR.out] at HS
                      go_wp2
                      go_ret
                      exact ⟨by rw [HS.out]; rfl, HBW.out⟩
                  · skip
                    have HR : Hid (Mc.spareR ⟨rw, false, false, false, false, true⟩ ⟨(k : Int), op, a, b, n, d, s, tos, trap⟩ = true) := Lib.hid (by simp [Mc.spareR, q0, q1, q2, p3])
                    rw [HR.out] at HS
                    go_wp2
                    go_ret
                    exact ⟨by rw [HS.out]; rfl, HBW.out⟩
              · skip
                rcases rt with _ | _
                · rcases q4 : (trap == 0) with _ | _
                  · skip
                    have HR : Hid (Mc.spareR ⟨rw, false, false, false, true, false⟩ ⟨(k : Int), op, a, b, n, d, s, tos, trap⟩ = false) := Lib.hid (by simp [Mc.spareR, q0, q1, q2, q4])
                    rw [HR.out] at HS
                    go_wp2
                    go_ret
                    exact ⟨by rw [HS.out]; rfl, HBW.out⟩
                  · skip
                    have HR : Hid (Mc.spareR ⟨rw, false, false, false, true, false⟩ ⟨(k : Int), op, a, b, n, d, s, tos, trap⟩ = true) := Lib.hid (by simp [Mc.spareR, q0, q1, q2, q4])
                    rw [HR.out] at HS
                    go_wp2
                    go_ret
                    exact ⟨by rw [HS.out]; rfl, HBW.out⟩
                · skip
                  have HR : Hid (Mc.spareR ⟨rw, false, false, false, true, true⟩ ⟨(k : Int), op, a, b, n, d, s, tos, trap⟩ = true) := Lib.hid (by simp [Mc.spareR, q0, q1, q2])
                  rw [HR.out] at HS
                  go_wp2
                  go_ret
                  exact ⟨by rw [HS.out]; rfl, HBW.out⟩
          · skip
            rcases rn with _ | _
            · rcases q3 : ((n : Int) == 0) with _ | _
              · skip
                have p3 : (n == 0) = false := by rw [← q3, Bool.eq_iff_iff, beq_iff_eq, beq_iff_eq]; omega
                have HR : Hid (Mc.spareR ⟨rw, false, false, true, false, rt⟩ ⟨(k : Int), op, a, b, n, d, s, tos, trap⟩ = false) := Lib.hid (by simp [Mc.spareR, q0, q1, p3])
                rw [HR.out] at HS
                go_wp2
                go_ret
                exact ⟨by rw [HS.out]; rfl, HBW.out⟩
              · skip
                have p3 : (n == 0) = true := by rw [← q3, Bool.eq_iff_iff, beq_iff_eq, beq_iff_eq]; omega
                rcases rt with _ | _
                · rcases q4 : (trap == 0) with _ | _
                  · skip
                    have HR : Hid (Mc.spareR ⟨rw, false, false, true, false, false⟩ ⟨(k : Int), op, a, b, n, d, s, tos, trap⟩ = false) := Lib.hid (by simp [Mc.spareR, q0, q1, p3, q4])
                    rw [HR.out] at HS
                    go_wp2
                    go_ret
                    exact ⟨by rw [HS.out]; rfl, HBW.out⟩
                  · skip
                    have HR : Hid (Mc.spareR ⟨rw, false, false, true, false, false⟩ ⟨(k : Int), op, a, b, n, d, s, tos, trap⟩ = true) := Lib.hid (by simp [Mc.spareR, q0, q1, p3, q4])
                    rw [HR.out] at HS
                    go_wp2
                    go_ret
                    exact ⟨by rw [HS.out]; rfl, HBW.out⟩
                · skip
                  have HR : Hid (Mc.spareR ⟨rw, false, false, true, false, true⟩ ⟨(k : Int), op, a, b, n, d, s, tos, trap⟩ = true) := Lib.hid (by simp [Mc.spareR, q0, q1, p3])
                  rw [HR.out] at HS
                  go_wp2
                  go_ret
                  exact ⟨by rw [HS.out]; rfl, HBW.out⟩
            · skip
              rcases rt with _ | _
              · rcases q4 : (trap == 0) with _ | _
                · skip
                  have HR : Hid (Mc.spareR ⟨rw, false, false, true, true, false⟩ ⟨(k : Int), op, a, b, n, d, s, tos, trap⟩ = false) := Lib.hid (by simp [Mc.spareR, q0, q1, q4])
                  rw [HR.out] at HS
                  go_wp2
                  go_ret
                  exact ⟨by rw [HS.out]; rfl, HBW.out⟩
                · skip
                  have HR : Hid (Mc.spareR ⟨rw, false, false, true, true, false⟩ ⟨(k : Int), op, a, b, n, d, s, tos, trap⟩ = true) := Lib.hid (by simp [Mc.spareR, q0, q1, q4])
                  rw [HR.out] at HS
                  go_wp2
                  go_ret
                  exact ⟨by rw [HS.out]; rfl, HBW.out⟩
              · skip
                have HR : Hid (Mc.spareR ⟨rw, false, false, true, true, true⟩ ⟨(k : Int), op, a, b, n, d, s, tos, trap⟩ = true) := Lib.hid (by simp [Mc.spareR, q0, q1])
                rw [HR.out] at HS
                go_wp2
                go_ret
                exact ⟨by rw [HS.out]; rfl, HBW.out⟩
      · skip
        rcases rb with _ | _
        · rcases q2 : (b == 0) with _ | _
          · skip
            have HR : Hid (Mc.spareR ⟨rw, false, true, false, rn, rt⟩ ⟨(k : Int), op, a, b, n, d, s, tos, trap⟩ = false) := Lib.hid (by simp [Mc.spareR, q0, q2])
            rw [HR.out] at HS
            go_wp2
            go_ret
            exact ⟨by rw [HS.out]; rfl, HBW.out⟩
          · skip
            rcases rn with _ | _
            · rcases q3 : ((n : Int) == 0) with _ | _
              · skip
                have p3 : (n == 0) = false := by rw [← q3, Bool.eq_iff_iff, beq_iff_eq, beq_iff_eq]; omega
                have HR : Hid (Mc.spareR ⟨rw, false, true, false, false, rt⟩ ⟨(k : Int), op, a, b, n, d, s, tos, trap⟩ = false) := Lib.hid (by simp [Mc.spareR, q0, q2, p3])
                rw [HR.out] at HS
                go_wp2
                go_ret
                exact ⟨by rw [HS.out]; rfl, HBW.out⟩
              · skip
                have p3 : (n == 0) = true := by rw [← q3, Bool.eq_iff_iff, beq_iff_eq, beq_iff_eq]; omega
                rcases rt with _ | _
                · rcases q4 : (trap == 0) with _ | _
                  · skip
                    have HR : Hid (Mc.spareR ⟨rw, false, true, false, false, false⟩ ⟨(k : Int), op, a, b, n, d, s, tos, trap⟩ = false) := Lib.hid (by simp [Mc.spareR, q0, q2, p3, q4])
                    rw [HR.out] at HS
                    go_wp2
                    go_ret
                    exact ⟨by rw [HS.out]; rfl, HBW.out⟩
                  · skip
                    have HR : Hid (Mc.spareR ⟨rw, false, true, false, false, false⟩ ⟨(k : Int), op, a, b, n, d, s, tos, trap⟩ = true) := Lib.hid (by simp [Mc.spareR, q0, q2, p3, q4])
                    rw [HR.out] at HS
                    go_wp2
                    go_ret
                    exact ⟨by rw [HS.out]; rfl, HBW.out⟩
                · skip
                  have HR : Hid (Mc.spareR ⟨rw, false, true, false, false, true⟩ ⟨(k : Int), op, a, b, n, d, s, tos, trap⟩ = true) := Lib.hid (by simp [Mc.spareR, q0, q2, p3])
                  rw [HR.out] at HS
                  go_wp2
                  go_ret
                  exact ⟨by rw [HS.out]; rfl, HBW.out⟩
            · skip
              rcases rt with _ | _
              · rcases q4 : (trap == 0) with _ | _
                · skip
                  have HR : Hid (Mc.spareR ⟨rw, false, true, false, true, false⟩ ⟨(k : Int), op, a, b, n, d, s, tos, trap⟩ = false) := Lib.hid (by simp [Mc.spareR, q0, q2, q4])
                  rw [HR.out] at HS
                  go_wp2
                  go_ret
                  exact ⟨by rw [HS.out]; rfl, HBW.out⟩
                · skip
                  have HR : Hid (Mc.spareR ⟨rw, false, true, false, true, false⟩ ⟨(k : Int), op, a, b, n, d, s, tos, trap⟩ = true) := Lib.hid (by simp [Mc.spareR, q0, q2, q4])
                  rw [HR.out] at HS
                  go_wp2
                  go_ret
                  exact ⟨by rw [HS.out]; rfl, HBW.out⟩
              · skip
                have HR : Hid (Mc.spareR ⟨rw, false, true, false, true, true⟩ ⟨(k : Int), op, a, b, n, d, s, tos, trap⟩ = true) := Lib.hid (by simp [Mc.spareR, q0, q2])
                rw [HR.out] at HS
                go_wp2
                go_ret
                exact ⟨by rw [HS.out]; rfl, HBW.out⟩
        · skip
          rcases rn with _ | _
          · rcases q3 : ((n : Int) == 0) with _ | _
            · skip
              have p3 : (n == 0) = false := by rw [← q3, Bool.eq_iff_iff, beq_iff_eq, beq_iff_eq]; omega
              have HR : Hid (Mc.spareR ⟨rw, false, true, true, false, rt⟩ ⟨(k : Int), op, a, b, n, d, s, tos, trap⟩ = false) := Lib.hid (by simp [Mc.spareR, q0, p3])
              rw [HR.out] at HS
              go_wp2
              go_ret
              exact ⟨by rw [HS.out]; rfl, HBW.out⟩
            · skip
              have p3 : (n == 0) = true := by rw [← q3, Bool.eq_iff_iff, beq_iff_eq, beq_iff_eq]; omega
              rcases rt with _ | _
              · rcases q4 : (trap == 0) with _ | _
                · skip
                  have HR : Hid (Mc.spareR ⟨rw, false, true, true, false, false⟩ ⟨(k : Int), op, a, b, n, d, s, tos, trap⟩ = false) := Lib.hid (by simp [Mc.spareR, q0, p3, q4])
                  rw [HR.out] at HS
                  go_wp2
                  go_ret
                  exact ⟨by rw [HS.out]; rfl, HBW.out⟩
                · skip
                  have HR : Hid (Mc.spareR ⟨rw, false, true, true, false, false⟩ ⟨(k : Int), op, a, b, n, d, s, tos, trap⟩ = true) := Lib.hid (by simp [Mc.spareR, q0, p3, q4])
                  rw [HR.out] at HS
                  go_wp2
                  go_ret
                  exact ⟨by rw [HS.out]; rfl, HBW.out⟩
              · skip
                have HR : Hid (Mc.spareR ⟨rw, false, true, true, false, true⟩ ⟨(k : Int), op, a, b, n, d, s, tos, trap⟩ = true) := Lib.hid (by simp [Mc.spareR, q0, p3])
                rw [HR.out] at HS
                go_wp2
                go_ret
                exact ⟨by rw [HS.out]; rfl, HBW.out⟩
          · skip
            rcases rt with _ | _
            · rcases q4 : (trap == 0) with _ | _
              · skip
                have HR : Hid (Mc.spareR ⟨rw, false, true, true, true, false⟩ ⟨(k : Int), op, a, b, n, d, s, tos, trap⟩ = false) := Lib.hid (by simp [Mc.spareR, q0, q4])
                rw [HR.out] at HS
                go_wp2
                go_ret
                exact ⟨by rw [HS.out]; rfl, HBW.out⟩
              · skip
                have HR : Hid (Mc.spareR ⟨rw, false, true, true, true, false⟩ ⟨(k : Int), op, a, b, n, d, s, tos, trap⟩ = true) := Lib.hid (by simp [Mc.spareR, q0, q4])
                rw [HR.out] at HS
                go_wp2
                go_ret
                exact ⟨by rw [HS.out]; rfl, HBW.out⟩
            · skip
              have HR : Hid (Mc.spareR ⟨rw, false, true, true, true, true⟩ ⟨(k : Int), op, a, b, n, d, s, tos, trap⟩ = true) := Lib.hid (by simp [Mc.spareR, q0])
              rw [HR.out] at HS
              go_wp2
              go_ret
              exact ⟨by rw [HS.out]; rfl, HBW.out⟩
  · skip
    rcases ra with _ | _
    · rcases q1 : (a == 0) with _ | _
      · skip
        have HR : Hid (Mc.spareR ⟨rw, true, false, rb, rn, rt⟩ ⟨(k : Int), op, a, b, n, d, s, tos, trap⟩ = false) := Lib.hid (by simp [Mc.spareR, q1])
        rw [HR.out] at HS
        go_wp2
        go_ret
        exact ⟨by rw [HS.out]; rfl, HBW.out⟩
      · skip
        rcases rb with _ | _
        · rcases q2 : (b == 0) with _ | _
          · skip
            have HR : Hid (Mc.spareR ⟨rw, true, false, false, rn, rt⟩ ⟨(k : Int), op, a, b, n, d, s, tos, trap⟩ = false) := Lib.hid (by simp [Mc.spareR, q1, q2])
            rw [HR.out] at HS
            go_wp2
            go_ret
            exact ⟨by rw [HS.out]; rfl, HBW.out⟩
          · skip
            rcases rn with _ | _
            · rcases q3 : ((n : Int) == 0) with _ | _
              · skip
                have p3 : (n == 0) = false := by rw [← q3, Bool.eq_iff_iff, beq_iff_eq, beq_iff_eq]; omega
                have HR : Hid (Mc.spareR ⟨rw, true, false, false, false, rt⟩ ⟨(k : Int), op, a, b, n, d, s, tos, trap⟩ = false) := Lib.hid (by simp [Mc.spareR, q1, q2, p3])
                rw [HR.out] at HS
                go_wp2
                go_ret
                exact ⟨by rw [HS.out]; rfl, HBW.out⟩
              · skip
                have p3 : (n == 0) = true := by rw [← q3, Bool.eq_iff_iff, beq_iff_eq, beq_iff_eq]; omega
                rcases rt with _ | _
                · rcases q4 : (trap == 0) with _ | _
                  · skip
                    have HR : Hid (Mc.spareR ⟨rw, true, false, false, false, false⟩ ⟨(k : Int), op, a, b, n, d, s, tos, trap⟩ = false) := Lib.hid (by simp [Mc.spareR, q1, q2, p3, q4])
                    rw [HR.out] at HS
                    go_wp2
                    go_ret
                    exact ⟨by rw [HS.out]; rfl, HBW.out⟩
                  · skip
                    have HR : Hid (Mc.spareR ⟨rw, true, false, false, false, false⟩ ⟨(k : Int), op, a, b, n, d, s, tos, trap⟩ = true) := Lib.hid (by simp [Mc.spareR, q1, q2, p3, q4])
                    rw [HR.out] at HS
                    go_wp2
                    go_ret
                    exact ⟨by rw [HS.out]; rfl, HBW.out⟩
                · skip
                  have HR : Hid (Mc.spareR ⟨rw, true, false, false, false, true⟩ ⟨(k : Int), op, a, b, n, d, s, tos, trap⟩ = true) := Lib.hid (by simp [Mc.spareR, q1, q2, p3])
                  rw [HR.out] at HS
                  go_wp2
                  go_ret
                  exact ⟨by rw [HS.out]; rfl, HBW.out⟩
            · skip
              rcases rt with _ | _
              · rcases q4 : (trap == 0) with _ | _
                · skip
                  have HR : Hid (Mc.spareR ⟨rw, true, false, false, true, false⟩ ⟨(k : Int), op, a, b, n, d, s, tos, trap⟩ = false) := Lib.hid (by simp [Mc.spareR, q1, q2, q4])
                  rw [HR.out] at HS
                  go_wp2
                  go_ret
                  exact ⟨by rw [HS.out]; rfl, HBW.out⟩
                · skip
                  have HR : Hid (Mc.spareR ⟨rw, true, false, false, true, false⟩ ⟨(k : Int), op, a, b, n, d, s, tos, trap⟩ = true) := Lib.hid (by simp [Mc.spareR, q1, q2, q4])
                  rw [HR.out] at HS
                  go_wp2
                  go_ret
                  exact ⟨by rw [HS.out]; rfl, HBW.out⟩
              · skip
                have HR : Hid (Mc.spareR ⟨rw, true, false, false, true, true⟩ ⟨(k : Int), op, a, b, n, d, s, tos, trap⟩ = true) := Lib.hid (by simp [Mc.spareR, q1, q2])
                rw [HR.out] at HS
                go_wp2
                go_ret
                exact ⟨by rw [HS.out]; rfl, HBW.out⟩
        · skip
          rcases rn with _ | _
          · rcases q3 : ((n : Int) == 0) with _ | _
            · skip
              have p3 : (n == 0) = false := by rw [← q3, Bool.eq_iff_iff, beq_iff_eq, beq_iff_eq]; omega
              have HR : Hid (Mc.spareR ⟨rw, true, false, true, false, rt⟩ ⟨(k : Int), op, a, b, n, d, s, tos, trap⟩ = false) := Lib.hid (by simp [Mc.spareR, q1, p3])
              rw [HR.out] at HS
              go_wp2
              go_ret
              exact ⟨by rw [HS.out]; rfl, HBW.out⟩
            · skip
              have p3 : (n == 0) = true := by rw [← q3, Bool.eq_iff_iff, beq_iff_eq, beq_iff_eq]; omega
              rcases rt with _ | _
              · rcases q4 : (trap == 0) with _ | _
                · skip
                  have HR : Hid (Mc.spareR ⟨rw, true, false, true, false, false⟩ ⟨(k : Int), op, a, b, n, d, s, tos, trap⟩ = false) := Lib.hid (by simp [Mc.spareR, q1, p3, q4])
                  rw [HR.out] at HS
                  go_wp2
                  go_ret
                  exact ⟨by rw [HS.out]; rfl, HBW.out⟩
                · skip
                  have HR : Hid (Mc.spareR ⟨rw, true, false, true, false, false⟩ ⟨(k : Int), op, a, b, n, d, s, tos, trap⟩ = true) := Lib.hid (by simp [Mc.spareR, q1, p3, q4])
                  rw [HR.out] at HS
                  go_wp2
                  go_ret
                  exact ⟨by rw [HS.out]; rfl, HBW.out⟩
              · skip
                have HR : Hid (Mc.spareR ⟨rw, true, false, true, false, true⟩ ⟨(k : Int), op, a, b, n, d, s, tos, trap⟩ = true) := Lib.hid (by simp [Mc.spareR, q1, p3])
                rw [HR.out] at HS
                go_wp2
                go_ret
                exact ⟨by rw [HS.out]; rfl, HBW.out⟩
          · skip
            rcases rt with _ | _
            · rcases q4 : (trap == 0) with _ | _
              · skip
                have HR : Hid (Mc.spareR ⟨rw, true, false, true, true, false⟩ ⟨(k : Int), op, a, b, n, d, s, tos, trap⟩ = false) := Lib.hid (by simp [Mc.spareR, q1, q4])
                rw [HR.out] at HS
                go_wp2
                go_ret
                exact ⟨by rw [HS.out]; rfl, HBW.out⟩
              · skip
                have HR : Hid (Mc.spareR ⟨rw, true, false, true, true, false⟩ ⟨(k : Int), op, a, b, n, d, s, tos, trap⟩ = true) := Lib.hid (by simp [Mc.spareR, q1, q4])
                rw [HR.out] at HS
                go_wp2
                go_ret
                exact ⟨by rw [HS.out]; rfl, HBW.out⟩
            · skip
              have HR : Hid (Mc.spareR ⟨rw, true, false, true, true, true⟩ ⟨(k : Int), op, a, b, n, d, s, tos, trap⟩ = true) := Lib.hid (by simp [Mc.spareR, q1])
              rw [HR.out] at HS
              go_wp2
              go_ret
              exact ⟨by rw [HS.out]; rfl, HBW.out⟩
    · skip
      rcases rb with _ | _
      · rcases q2 : (b == 0) with _ | _
        · skip
          have HR : Hid (Mc.spareR ⟨rw, true, true, false, rn, rt⟩ ⟨(k : Int), op, a, b, n, d, s, tos, trap⟩ = false) := Lib.hid (by simp [Mc.spareR, q2])
          rw [HR.out] at HS
          go_wp2
          go_ret
          exact ⟨by rw [HS.out]; rfl, HBW.out⟩
        · skip
          rcases rn with _ | _
          · rcases q3 : ((n : Int) == 0) with _ | _
            · skip
              have p3 : (n == 0) = false := by rw [← q3, Bool.eq_iff_iff, beq_iff_eq, beq_iff_eq]; omega
              have HR : Hid (Mc.spareR ⟨rw, true, true, false, false, rt⟩ ⟨(k : Int), op, a, b, n, d, s, tos, trap⟩ = false) := Lib.hid (by simp [Mc.spareR, q2, p3])
              rw [HR.out] at HS
              go_wp2
              go_ret
              exact ⟨by rw [HS.out]; rfl, HBW.out⟩
            · skip
              have p3 : (n == 0) = true := by rw [← q3, Bool.eq_iff_iff, beq_iff_eq, beq_iff_eq]; omega
              rcases rt with _ | _
              · rcases q4 : (trap == 0) with _ | _
                · skip
                  have HR : Hid (Mc.spareR ⟨rw, true, true, false, false, false⟩ ⟨(k : Int), op, a, b, n, d, s, tos, trap⟩ = false) := Lib.hid (by simp [Mc.spareR, q2, p3, q4])
                  rw [HR.out] at HS
                  go_wp2
                  go_ret
                  exact ⟨by rw [HS.out]; rfl, HBW.out⟩
                · skip
                  have HR : Hid (Mc.spareR ⟨rw, true, true, false, false, false⟩ ⟨(k : Int), op, a, b, n, d, s, tos, trap⟩ = true) := Lib.hid (by simp [Mc.spareR, q2, p3, q4])
                  rw [HR.out] at HS
                  go_wp2
                  go_ret
                  exact ⟨by rw [HS.out]; rfl, HBW.out⟩
              · skip
                have HR : Hid (Mc.spareR ⟨rw, true, true, false, false, true⟩ ⟨(k : Int), op, a, b, n, d, s, tos, trap⟩ = true) := Lib.hid (by simp [Mc.spareR, q2, p3])
                rw [HR.out] at HS
                go_wp2
                go_ret
                exact ⟨by rw [HS.out]; rfl, HBW.out⟩
          · skip
            rcases rt with _ | _
            · rcases q4 : (trap == 0) with _ | _
              · skip
                have HR : Hid (Mc.spareR ⟨rw, true, true, false, true, false⟩ ⟨(k : Int), op, a, b, n, d, s, tos, trap⟩ = false) := Lib.hid (by simp [Mc.spareR, q2, q4])
                rw [HR.out] at HS
                go_wp2
                go_ret
                exact ⟨by rw [HS.out]; rfl, HBW.out⟩
              · skip
                have HR : Hid (Mc.spareR ⟨rw, true, true, false, true, false⟩ ⟨(k : Int), op, a, b, n, d, s, tos, trap⟩ = true) := Lib.hid (by simp [Mc.spareR, q2, q4])
                rw [HR.out] at HS
                go_wp2
                go_ret
                exact ⟨by rw [HS.out]; rfl, HBW.out⟩
            · skip
              have HR : Hid (Mc.spareR ⟨rw, true, true, false, true, true⟩ ⟨(k : Int), op, a, b, n, d, s, tos, trap⟩ = true) := Lib.hid (by simp [Mc.spareR, q2])
              rw [HR.out] at HS
              go_wp2
              go_ret
              exact ⟨by rw [HS.out]; rfl, HBW.out⟩
      · skip
        rcases rn with _ | _
        · rcases q3 : ((n : Int) == 0) with _ | _
          · skip
            have p3 : (n == 0) = false := by rw [← q3, Bool.eq_iff_iff, beq_iff_eq, beq_iff_eq]; omega
            have HR : Hid (Mc.spareR ⟨rw, true, true, true, false, rt⟩ ⟨(k : Int), op, a, b, n, d, s, tos, trap⟩ = false) := Lib.hid (by simp [Mc.spareR, p3])
            rw [HR.out] at HS
            go_wp2
            go_ret
            exact ⟨by rw [HS.out]; rfl, HBW.out⟩
          · skip
            have p3 : (n == 0) = true := by rw [← q3, Bool.eq_iff_iff, beq_iff_eq, beq_iff_eq]; omega
            rcases rt with _ | _
            · rcases q4 : (trap == 0) with _ | _
              · skip
                have HR : Hid (Mc.spareR ⟨rw, true, true, true, false, false⟩ ⟨(k : Int), op, a, b, n, d, s, tos, trap⟩ = false) := Lib.hid (by simp [Mc.spareR, p3, q4])
                rw [HR.out] at HS
                go_wp2
                go_ret
                exact ⟨by rw [HS.out]; rfl, HBW.out⟩
              · skip
                have HR : Hid (Mc.spareR ⟨rw, true, true, true, false, false⟩ ⟨(k : Int), op, a, b, n, d, s, tos, trap⟩ = true) := Lib.hid (by simp [Mc.spareR, p3, q4])
                rw [HR.out] at HS
                go_wp2
                go_ret
                exact ⟨by rw [HS.out]; rfl, HBW.out⟩
            · skip
              have HR : Hid (Mc.spareR ⟨rw, true, true, true, false, true⟩ ⟨(k : Int), op, a, b, n, d, s, tos, trap⟩ = true) := Lib.hid (by simp [Mc.spareR, p3])
              rw [HR.out] at HS
              go_wp2
              go_ret
              exact ⟨by rw [HS.out]; rfl, HBW.out⟩
        · skip
          rcases rt with _ | _
          · rcases q4 : (trap == 0) with _ | _
            · skip
              have HR : Hid (Mc.spareR ⟨rw, true, true, true, true, false⟩ ⟨(k : Int), op, a, b, n, d, s, tos, trap⟩ = false) := Lib.hid (by simp [Mc.spareR, q4])
              rw [HR.out] at HS
              go_wp2
              go_ret
              exact ⟨by rw [HS.out]; rfl, HBW.out⟩
            · skip
              have HR : Hid (Mc.spareR ⟨rw, true, true, true, true, false⟩ ⟨(k : Int), op, a, b, n, d, s, tos, trap⟩ = true) := Lib.hid (by simp [Mc.spareR, q4])
              rw [HR.out] at HS
              go_wp2
              go_ret
              exact ⟨by rw [HS.out]; rfl, HBW.out⟩
          · skip
            have HR : Hid (Mc.spareR ⟨rw, true, true, true, true, true⟩ ⟨(k : Int), op, a, b, n, d, s, tos, trap⟩ = true) := Lib.hid (by simp [Mc.spareR])
            rw [HR.out] at HS
            go_wp2
            go_ret
            exact ⟨by rw [HS.out]; rfl, HBW.out⟩
end Go.Proofs.YtadnfekogmjieaaGreatDoor
