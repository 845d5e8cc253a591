/-
  Layer 51, the reference: unused, numbers. (Printed by gen_mk7.py.)
-/
import Derived.Test.YtadnfekogmjieaaGreatDoorGGX
import Derived.Test.YtadnfekogmjieaaGreatDoorGGQ
set_option linter.unusedVariables false
set_option linter.unusedSimpArgs false
namespace Go.Proofs.YtadnfekogmjieaaGreatDoor
open Go.RowKit
open Mc (Pl Mi Im Md)
attribute [local go_sem] ByteArray.extract_mk
theorem Mc.kinds_pat (k : Int) : (Mc.hOp k = false ∧ Mc.hA k = false ∧ Mc.hB k = false ∧ Mc.hN k = false) ∨ ((k == 23) = false ∧ (k == 19) = false ∧ (k == 20) = false ∧ (k == 21) = false) ∧ ((Mc.hOp k = true ∧ Mc.hA k = false ∧ Mc.hB k = false ∧ Mc.hN k = false) ∨ (Mc.hOp k = true ∧ Mc.hA k = false ∧ Mc.hB k = true ∧ Mc.hN k = true) ∨ (Mc.hOp k = false ∧ Mc.hA k = true ∧ Mc.hB k = true ∧ Mc.hN k = true) ∨ (Mc.hOp k = false ∧ Mc.hA k = false ∧ Mc.hB k = true ∧ Mc.hN k = false) ∨ (Mc.hOp k = false ∧ Mc.hA k = true ∧ Mc.hB k = false ∧ Mc.hN k = false) ∨ (Mc.hOp k = false ∧ Mc.hA k = true ∧ Mc.hB k = true ∧ Mc.hN k = false) ∨ (Mc.hOp k = true ∧ Mc.hA k = true ∧ Mc.hB k = true ∧ Mc.hN k = false) ∨ (Mc.hOp k = false ∧ Mc.hA k = false ∧ Mc.hB k = false ∧ Mc.hN k = true)) := by
  by_cases h : 0 ≤ k ∧ k ≤ 18
  · have hz : ∀ z : Fin 19, (Mc.hOp ((z.val : Nat) : Int) = false ∧ Mc.hA ((z.val : Nat) : Int) = false ∧ Mc.hB ((z.val : Nat) : Int) = false ∧ Mc.hN ((z.val : Nat) : Int) = false) ∨ ((((z.val : Nat) : Int) == 23) = false ∧ (((z.val : Nat) : Int) == 19) = false ∧ (((z.val : Nat) : Int) == 20) = false ∧ (((z.val : Nat) : Int) == 21) = false) ∧ ((Mc.hOp ((z.val : Nat) : Int) = true ∧ Mc.hA ((z.val : Nat) : Int) = false ∧ Mc.hB ((z.val : Nat) : Int) = false ∧ Mc.hN ((z.val : Nat) : Int) = false) ∨ (Mc.hOp ((z.val : Nat) : Int) = true ∧ Mc.hA ((z.val : Nat) : Int) = false ∧ Mc.hB ((z.val : Nat) : Int) = true ∧ Mc.hN ((z.val : Nat) : Int) = true) ∨ (Mc.hOp ((z.val : Nat) : Int) = false ∧ Mc.hA ((z.val : Nat) : Int) = true ∧ Mc.hB ((z.val : Nat) : Int) = true ∧ Mc.hN ((z.val : Nat) : Int) = true) ∨ (Mc.hOp ((z.val : Nat) : Int) = false ∧ Mc.hA ((z.val : Nat) : Int) = false ∧ Mc.hB ((z.val : Nat) : Int) = true ∧ Mc.hN ((z.val : Nat) : Int) = false) ∨ (Mc.hOp ((z.val : Nat) : Int) = false ∧ Mc.hA ((z.val : Nat) : Int) = true ∧ Mc.hB ((z.val : Nat) : Int) = false ∧ Mc.hN ((z.val : Nat) : Int) = false) ∨ (Mc.hOp ((z.val : Nat) : Int) = false ∧ Mc.hA ((z.val : Nat) : Int) = true ∧ Mc.hB ((z.val : Nat) : Int) = true ∧ Mc.hN ((z.val : Nat) : Int) = false) ∨ (Mc.hOp ((z.val : Nat) : Int) = true ∧ Mc.hA ((z.val : Nat) : Int) = true ∧ Mc.hB ((z.val : Nat) : Int) = true ∧ Mc.hN ((z.val : Nat) : Int) = false) ∨ (Mc.hOp ((z.val : Nat) : Int) = false ∧ Mc.hA ((z.val : Nat) : Int) = false ∧ Mc.hB ((z.val : Nat) : Int) = false ∧ Mc.hN ((z.val : Nat) : Int) = true)) := by decide
    obtain ⟨n, rfl⟩ : ∃ n : Nat, k = (n : Int) := ⟨k.toNat, by omega⟩
    exact hz ⟨n, by omega⟩
  · left
    have hn : ∀ z : Int, 0 ≤ z ∧ z ≤ 18 → (k == z) = false := fun z hz => by rw [beq_eq_false_iff_ne]; omega
    unfold Mc.hOp Mc.hA Mc.hB Mc.hN
    simp only [hn 0 (by omega), hn 2 (by omega), hn 3 (by omega), hn 5 (by omega), hn 6 (by omega), hn 7 (by omega), hn 8 (by omega), hn 9 (by omega), hn 10 (by omega), hn 11 (by omega), hn 12 (by omega), hn 13 (by omega), hn 14 (by omega), hn 16 (by omega), hn 17 (by omega), hn 18 (by omega)]
    exact ⟨rfl, rfl, rfl, rfl⟩
set_option maxHeartbeats 16000000 in
set_option maxRecDepth 100000 in
theorem runused_any (x : Mi) (D : Option Addr) (c1 : Nat) (E : Option Addr) (c2 : Nat) (T : Option Addr) (c3 : Nat) (w : World) :
    Calls Tryz.prog 63 #[.agg (miV x D c1 E c2 T c3)] w fun e w' => e = .returned (.bool (Mc.unusedR x)) ∧ Below w.heap.size w w' := by
  obtain ⟨R, hR⟩ : ∃ R, Mc.unusedR x = R := ⟨_, rfl⟩
  rw [hR]
  unfold Mc.unusedR at hR
  have HB := Lib.hid ((Below.refl w.heap.size w).alloc (Nat.le_refl _) (.cells (miV x D c1 E c2 T c3) 61))
  have HV := Lib.hid (Var.new w (miV x D c1 E c2 T c3) 61)
  have Ho := Lib.hid (fun W => rhasOp_any x.kind W)
  have Ha := Lib.hid (fun W => rhasA_any x.kind W)
  have Hb := Lib.hid (fun W => rhasB_any x.kind W)
  have Hn := Lib.hid (fun W => rhasN_any x.kind W)
  have hnn : (x.n == 0) = ((x.n : Int) == 0) := by rw [Bool.eq_iff_iff]; simp <;> omega
  have hnl : (x.tos.length == 0) = ((x.tos.length : Int) == 0) := by rw [Bool.eq_iff_iff]; simp <;> omega
  rw [hnn, hnl] at hR
  clear hnn hnl
  have hk := Mc.kinds_pat x.kind
  rcases hk with ⟨e1, e2, e3, e4⟩ | ⟨⟨k23, k19, k20, k21⟩, ⟨e1, e2, e3, e4⟩ | ⟨e1, e2, e3, e4⟩ | ⟨e1, e2, e3, e4⟩ | ⟨e1, e2, e3, e4⟩ | ⟨e1, e2, e3, e4⟩ | ⟨e1, e2, e3, e4⟩ | ⟨e1, e2, e3, e4⟩ | ⟨e1, e2, e3, e4⟩⟩
  all_goals
    rw [e1] at Ho hR
    rw [e2] at Ha hR
    rw [e3] at Hb hR
    rw [e4] at Hn hR
    clear e1 e2 e3 e4
  all_goals (try simp only [Bool.true_or, Bool.false_or] at hR)
  all_goals (try rw [k23, k19, k20, k21] at hR)
  all_goals (first | (have hF : R = false := hR.symm) | (rcases z0 : (x.op == 0) with _ | _ <;> rw [z0] at hR) | skip)
  all_goals (first | (have hF : R = false := hR.symm) | (rcases z1 : (x.a == 0) with _ | _ <;> rw [z1] at hR) | skip)
  all_goals (first | (have hF : R = false := hR.symm) | (rcases z2 : (x.b == 0) with _ | _ <;> rw [z2] at hR) | skip)
  all_goals (first | (have hF : R = false := hR.symm) | (rcases z3 : ((x.n : Int) == 0) with _ | _ <;> rw [z3] at hR) | skip)
  all_goals (first | (have hF : R = false := hR.symm) | (rcases k23 : (x.kind == 23) with _ | _ <;> rw [k23] at hR) | skip)
  all_goals (try simp only [Bool.true_or, Bool.false_or] at hR)
  all_goals (first | (have hF : R = false := hR.symm) | (rcases zt : (x.trap == 0) with _ | _ <;> rw [zt] at hR) | skip)
  all_goals (try (have ek : x.kind = 23 := (by simpa using k23); have k19 : (x.kind == 19) = false := (by rw [ek]; rfl); have k20 : (x.kind == 20) = false := (by rw [ek]; rfl); have k21 : (x.kind == 21) = false := (by rw [ek]; rfl); rw [k19, k20, k21] at hR; clear ek))
  all_goals (try simp only [Bool.true_or, Bool.false_or] at hR)
  all_goals (first | (have hF : R = false := hR.symm) | (rcases k19 : (x.kind == 19) with _ | _ <;> rw [k19] at hR) | skip)
  all_goals (try simp only [Bool.true_or, Bool.false_or] at hR)
  all_goals (first | (have hF : R = false := hR.symm) | (rcases k20 : (x.kind == 20) with _ | _ <;> rw [k20] at hR) | skip)
  all_goals (try simp only [Bool.true_or, Bool.false_or] at hR)
  all_goals (first | (have hF : R = false := hR.symm) | (rcases k21 : (x.kind == 21) with _ | _ <;> rw [k21] at hR) | skip)
  all_goals (try simp only [Bool.true_or, Bool.false_or] at hR)
  all_goals (first | (have hF : R = false := hR.symm) | (rcases zl : ((x.tos.length : Int) == 0) with _ | _ <;> rw [zl] at hR) | skip)
  all_goals
    have HR := Lib.hid hR
    clear hR
    go_enter Tryz.func63, Tryz.ntmps63
    go_upto_region 1 with fail
    refine at_code (F := fun W => Hid (Below w.heap.size w W) ∧ Hid (Var W w.heap.size (miV x D c1 E c2 T c3) 61)) ⟨HB, HV⟩ ?_
    clear HB HV
    rintro W ⟨B1, V1⟩
    obtain ⟨m0, m1, m2, m3, m4, m5, m6, m7, m8⟩ := miV_cells V1.out
    go_wp2_with (first | (go_at_call 78; with_reducible refine (Ho.out _).mono ?_; rintro e w1 ⟨rfl, rfl⟩) | (go_at_call 81; with_reducible refine (Ha.out _).mono ?_; rintro e w1 ⟨rfl, rfl⟩) | (go_at_call 82; with_reducible refine (Hb.out _).mono ?_; rintro e w1 ⟨rfl, rfl⟩) | (go_at_call 83; with_reducible refine (Hn.out _).mono ?_; rintro e w1 ⟨rfl, rfl⟩))
    go_ret
    exact ⟨by rw [← HR.out]; simp, B1.out⟩
set_option maxHeartbeats 8000000 in
set_option maxRecDepth 100000 in
theorem rnumbers_any (op : Int) (n : Nat) (w : World) : Calls Tryz.prog 112 #[.int .i64 op, .int .i64 (n : Int)] w fun e w' => e = .returned (.bool (Mc.numR2 op n)) ∧ Below w.heap.size w w' := by
  obtain ⟨R, hR⟩ : ∃ R, Mc.numR2 op n = R := ⟨_, rfl⟩
  rw [hR]
  unfold Mc.numR2 Mc.i32d Mc.i64d at hR
  have HS := Lib.hid (fun W => rsig_any op W)
  have HW := Lib.hid (fun W => rwidth_any op W)
  have HN := Lib.hid (fun W => rname5_any op W)
  have hnl := Mc.name_len op
  obtain ⟨⟨⟨np, nr⟩, b⟩, hs⟩ : ∃ y, Mc.sigR op = y := ⟨_, rfl⟩
  obtain ⟨wd, hw⟩ : ∃ y, Mc.widR op = y := ⟨_, rfl⟩
  obtain ⟨s, hn⟩ : ∃ s, Opc.name op = s := ⟨_, rfl⟩
  rw [hs, hw, hn] at hR
  rw [hs] at HS
  rw [hw] at HW
  rw [hn] at HN hnl
  dsimp only at hR
  clear hs hw hn
  have hsz : (ByteArray.mk s.toArray).size = s.length := by simp [ByteArray.size]
  have B0 := Lib.hid (Below.refl w.heap.size w)
  go_enter Tryz.func112, Tryz.ntmps112
  go_upto_region 2 with (go_at_call 149; refine (HS.out _).mono ?_; rintro e w2 ⟨⟨A, c, B, d, rfl⟩, hb⟩; have B2 := Lib.hid hb; dsimp only)
  refine at_code (F := fun W => Hid (Below w.heap.size w W) ∧ Hid (Var W w2.heap.size #[.slice A np c, .slice B nr d] 36)) ⟨Lib.hid (B2.out.alloc B2.out.size _), Lib.hid (Var.new _ _ _)⟩ ?_
  clear B2 hb HS
  obtain ⟨K, hK⟩ : ∃ K, w2.heap.size = K := ⟨_, rfl⟩
  simp only [hK]
  clear hK
  rintro W ⟨B1, V1⟩
  go_upto_region 3 with (go_at_call 80; refine (HN.out _).mono ?_; rintro e w3 ⟨rfl, hb⟩; have B3 := Lib.hid (B1.out.trans (hb.mono B1.out.size)); have V3 := Lib.hid (var_keep V1.out hb))
  refine at_code (F := fun W => Hid (Below w.heap.size w W) ∧ Hid (Var W K #[.slice A np c, .slice B nr d] 36)) ⟨B3, V3⟩ ?_
  clear B3 V3 hb HN B1 V1
  rintro W ⟨B1, V1⟩
  obtain ⟨q0, q1⟩ := cells2 V1.out
  rcases b with _ | _
  · skip
    go_wp2_with fail
    go_ret
    exact ⟨by rw [← hR]; simp, B1.out⟩
  have w0 : (wd == 0) = decide (wd = 0) := by rw [Bool.eq_iff_iff]; simp
  rcases c1 : decide (wd = 0) with _ | _
  all_goals rw [c1] at hR w0
  · skip
    go_wp2_with (go_at_call 114; refine (HW.out _).mono ?_; rintro e w4 ⟨rfl, hb⟩; have B4 := Lib.hid (B1.out.trans (hb.mono B1.out.size)); have V4 := Lib.hid (var_keep V1.out hb); clear q0 q1; obtain ⟨q0, q1⟩ := cells2 V4.out)
    go_ret
    exact ⟨by rw [← hR]; simp, B4.out⟩
  by_cases c2 : 4 < s.length
  case neg =>
    rw [decide_eq_false c2] at hR
    have x0 : ¬ (4 : Int) < (s.length : Int) := by omega
    go_wp2_with (go_at_call 114; refine (HW.out _).mono ?_; rintro e w4 ⟨rfl, hb⟩; have B4 := Lib.hid (B1.out.trans (hb.mono B1.out.size)); have V4 := Lib.hid (var_keep V1.out hb); clear q0 q1; obtain ⟨q0, q1⟩ := cells2 V4.out)
    go_ret
    exact ⟨by rw [← hR]; simp, B4.out⟩
  rw [decide_eq_true c2] at hR
  have x0 : (4 : Int) < (s.length : Int) := by omega
  have x1 : (4 : Int) ≤ (s.length : Int) := by omega
  have n0 : ((np : Int) == (n : Int)) = decide (np = n) := by rw [Bool.eq_iff_iff]; simp; omega
  have n1 : ((nr : Int) == 1) = decide (nr = 1) := by rw [Bool.eq_iff_iff]; simp; omega
  rcases c3 : (s.take 4 == [105, 51, 50, 46]) with _ | _
  all_goals rw [c3] at hR
  · rcases c4 : (s.take 4 == [105, 54, 52, 46]) with _ | _
    all_goals rw [c4] at hR
    · skip
      go_wp2_with (go_at_call 114; refine (HW.out _).mono ?_; rintro e w4 ⟨rfl, hb⟩; have B4 := Lib.hid (B1.out.trans (hb.mono B1.out.size)); have V4 := Lib.hid (var_keep V1.out hb); clear q0 q1; obtain ⟨q0, q1⟩ := cells2 V4.out)
      go_ret
      exact ⟨by rw [← hR]; simp, B4.out⟩
    rcases c5 : decide (np = n) with _ | _
    all_goals rw [c5] at hR n0
    · skip
      go_wp2_with (go_at_call 114; refine (HW.out _).mono ?_; rintro e w4 ⟨rfl, hb⟩; have B4 := Lib.hid (B1.out.trans (hb.mono B1.out.size)); have V4 := Lib.hid (var_keep V1.out hb); clear q0 q1; obtain ⟨q0, q1⟩ := cells2 V4.out)
      go_ret
      exact ⟨by rw [← hR]; simp, B4.out⟩
    go_wp2_with (go_at_call 114; refine (HW.out _).mono ?_; rintro e w4 ⟨rfl, hb⟩; have B4 := Lib.hid (B1.out.trans (hb.mono B1.out.size)); have V4 := Lib.hid (var_keep V1.out hb); clear q0 q1; obtain ⟨q0, q1⟩ := cells2 V4.out)
    go_ret
    exact ⟨by rw [← hR]; simp, B4.out⟩
  rcases c5 : decide (np = n) with _ | _
  all_goals rw [c5] at hR n0
  · skip
    go_wp2_with (go_at_call 114; refine (HW.out _).mono ?_; rintro e w4 ⟨rfl, hb⟩; have B4 := Lib.hid (B1.out.trans (hb.mono B1.out.size)); have V4 := Lib.hid (var_keep V1.out hb); clear q0 q1; obtain ⟨q0, q1⟩ := cells2 V4.out)
    go_ret
    exact ⟨by rw [← hR]; simp, B4.out⟩
  go_wp2_with (go_at_call 114; refine (HW.out _).mono ?_; rintro e w4 ⟨rfl, hb⟩; have B4 := Lib.hid (B1.out.trans (hb.mono B1.out.size)); have V4 := Lib.hid (var_keep V1.out hb); clear q0 q1; obtain ⟨q0, q1⟩ := cells2 V4.out)
  go_ret
  exact ⟨by rw [← hR]; simp, B4.out⟩
end Go.Proofs.YtadnfekogmjieaaGreatDoor
