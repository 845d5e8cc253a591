/-
  Layer 51: opcode.Sig: how many operands and results. (Printed by gen_mc2.py.)
-/
import Derived.Test.YtadnfekogmjieaaGreatDoorGTk
import Derived.Test.YtadnfekogmjieaaGreatDoorGMC1
set_option linter.unusedVariables false
set_option linter.unusedSimpArgs false
namespace Go.Proofs.YtadnfekogmjieaaGreatDoor
open Go.RowKit
def SgOut (p : (Nat × Nat) × Bool) (e : Ending) : Prop := ∃ A c B d, e = .returned (.tuple #[.agg #[.slice A p.1.1 c, .slice B p.1.2 d], .bool p.2])
theorem ext_drop (s : List UInt8) (k n : Nat) (hn : s.length = n) : (ByteArray.mk s.toArray).extract k n = ⟨(s.drop k).toArray⟩ := by
  subst hn
  apply ByteArray.ext
  simp
  exact List.take_of_length_le (by simp)
theorem prefix_len {s p : List UInt8} (h : Lib.hasPrefix s p = true) : p.length ≤ s.length := (List.isPrefixOf_iff_prefix.1 h).length_le
theorem info_func2 : (Tryz.prog.info? 36).map (·.size) = some 2 := by kernel_rfl
set_option maxHeartbeats 8000000 in
set_option maxRecDepth 100000 in
theorem osig_any (op : Int) (w : World) (G : Glob w) : Calls Tryz.prog 141 #[.int .i64 op] w fun e w' => SgOut (Mc.sigO op) e ∧ Below w.heap.size w w' := by
  obtain ⟨R, hR⟩ : ∃ R, Mc.sigO op = R := ⟨_, rfl⟩
  rw [hR]
  unfold Mc.sigO at hR
  have V := Lib.hid (Var.new w #[.slice none 0 0, .slice none 0 0] 36)
  have HB0 := Lib.hid (Below.refl (w.heap.size + 1) (w.alloc (.cells #[.slice none 0 0, .slice none 0 0] 36)))
  have HB1 := Lib.hid (HB0.out.alloc (by simp) (.cells #[.int .i64 1, .int .i64 1, .int .i64 1] 68))
  by_cases h1 : op = 1
  · subst h1
    replace hR : R = _ := hR.symm.trans rfl
    clear G
    replace hR := hR.symm
    go_enter Tryz.func141, Tryz.ntmps141
    have V1 := Lib.hid (V.out.below HB1.out (by omega))
    have B1 := HB1.out
    obtain ⟨q0, q1⟩ := cells2 V1.out
    have z0 := V1.out.froz 0
    have z1 := V1.out.froz 1
    have hlt := V1.out.lt
    go_wp2
    refine bodyPost_ret (results_cell_row_tmp rfl _ _ w.heap.size _ _ (0, 0) _ rfl V1.out Tryz.underlying36 rfl (by kernel_rfl)) rfl ?_
    obtain rfl := hR
    exact ⟨⟨_, _, _, _, rfl⟩, below_one' B1⟩
  by_cases h64525 : op = 64525
  · subst h64525
    replace hR : R = _ := hR.symm.trans rfl
    clear G
    replace hR := hR.symm
    go_enter Tryz.func141, Tryz.ntmps141
    have V1 := Lib.hid (V.out.below HB1.out (by omega))
    have B1 := HB1.out
    obtain ⟨q0, q1⟩ := cells2 V1.out
    have z0 := V1.out.froz 0
    have z1 := V1.out.froz 1
    have hlt := V1.out.lt
    go_wp2
    refine bodyPost_ret (results_cell_row_tmp rfl _ _ w.heap.size _ _ (0, 0) _ rfl V1.out Tryz.underlying36 rfl (by kernel_rfl)) rfl ?_
    obtain rfl := hR
    exact ⟨⟨_, _, _, _, rfl⟩, below_one' B1⟩
  by_cases h64521 : op = 64521
  · subst h64521
    replace hR : R = _ := hR.symm.trans rfl
    clear G
    replace hR := hR.symm
    go_enter Tryz.func141, Tryz.ntmps141
    have V1 := Lib.hid (V.out.below HB1.out (by omega))
    have B1 := HB1.out
    obtain ⟨q0, q1⟩ := cells2 V1.out
    have z0 := V1.out.froz 0
    have z1 := V1.out.froz 1
    have hlt := V1.out.lt
    go_wp2
    refine bodyPost_ret (results_cell_row_tmp rfl _ _ w.heap.size _ _ (0, 0) _ rfl V1.out Tryz.underlying36 rfl (by kernel_rfl)) rfl ?_
    obtain rfl := hR
    exact ⟨⟨_, _, _, _, rfl⟩, below_one' B1⟩
  by_cases h65 : op = 65
  · subst h65
    replace hR : R = _ := hR.symm.trans rfl
    clear G
    replace hR := hR.symm
    go_enter Tryz.func141, Tryz.ntmps141
    go_wp2_with (go_at_call 193; refine (oof_any _ _ _ _ _ _ _).mono ?_; rintro e w1 ⟨rfl, hb⟩; have B1 := below3 (by first | exact HB1.out | exact HB1.out.alloc (by simp) _ | exact (HB1.out.alloc (by simp) _).alloc (by simp) _) hb; have V1 := Lib.hid (V.out.below B1 (by omega)); obtain ⟨q0, q1⟩ := cells2 V1.out; have z0 := V1.out.froz 0; have z1 := V1.out.froz 1; have hlt := V1.out.lt)
    refine bodyPost_ret (results_cell_row_tmp rfl _ _ w.heap.size _ _ (0, 0) _ rfl ((V1.out.set 0 _).set 1 _) Tryz.underlying36 rfl (by kernel_rfl)) rfl ?_
    obtain rfl := hR
    exact ⟨⟨_, _, _, _, rfl⟩, below_set (below_one' B1) (Nat.le_refl _) _ _⟩
  by_cases h63 : op = 63
  · subst h63
    replace hR : R = _ := hR.symm.trans rfl
    clear G
    replace hR := hR.symm
    go_enter Tryz.func141, Tryz.ntmps141
    go_wp2_with (go_at_call 193; refine (oof_any _ _ _ _ _ _ _).mono ?_; rintro e w1 ⟨rfl, hb⟩; have B1 := below3 (by first | exact HB1.out | exact HB1.out.alloc (by simp) _ | exact (HB1.out.alloc (by simp) _).alloc (by simp) _) hb; have V1 := Lib.hid (V.out.below B1 (by omega)); obtain ⟨q0, q1⟩ := cells2 V1.out; have z0 := V1.out.froz 0; have z1 := V1.out.froz 1; have hlt := V1.out.lt)
    refine bodyPost_ret (results_cell_row_tmp rfl _ _ w.heap.size _ _ (0, 0) _ rfl ((V1.out.set 0 _).set 1 _) Tryz.underlying36 rfl (by kernel_rfl)) rfl ?_
    obtain rfl := hR
    exact ⟨⟨_, _, _, _, rfl⟩, below_set (below_one' B1) (Nat.le_refl _) _ _⟩
  by_cases h64528 : op = 64528
  · subst h64528
    replace hR : R = _ := hR.symm.trans rfl
    clear G
    replace hR := hR.symm
    go_enter Tryz.func141, Tryz.ntmps141
    go_wp2_with (go_at_call 193; refine (oof_any _ _ _ _ _ _ _).mono ?_; rintro e w1 ⟨rfl, hb⟩; have B1 := below3 (by first | exact HB1.out | exact HB1.out.alloc (by simp) _ | exact (HB1.out.alloc (by simp) _).alloc (by simp) _) hb; have V1 := Lib.hid (V.out.below B1 (by omega)); obtain ⟨q0, q1⟩ := cells2 V1.out; have z0 := V1.out.froz 0; have z1 := V1.out.froz 1; have hlt := V1.out.lt)
    refine bodyPost_ret (results_cell_row_tmp rfl _ _ w.heap.size _ _ (0, 0) _ rfl ((V1.out.set 0 _).set 1 _) Tryz.underlying36 rfl (by kernel_rfl)) rfl ?_
    obtain rfl := hR
    exact ⟨⟨_, _, _, _, rfl⟩, below_set (below_one' B1) (Nat.le_refl _) _ _⟩
  by_cases h66 : op = 66
  · subst h66
    replace hR : R = _ := hR.symm.trans rfl
    clear G
    replace hR := hR.symm
    go_enter Tryz.func141, Tryz.ntmps141
    go_wp2_with (go_at_call 193; refine (oof_any _ _ _ _ _ _ _).mono ?_; rintro e w1 ⟨rfl, hb⟩; have B1 := below3 (by first | exact HB1.out | exact HB1.out.alloc (by simp) _ | exact (HB1.out.alloc (by simp) _).alloc (by simp) _) hb; have V1 := Lib.hid (V.out.below B1 (by omega)); obtain ⟨q0, q1⟩ := cells2 V1.out; have z0 := V1.out.froz 0; have z1 := V1.out.froz 1; have hlt := V1.out.lt)
    refine bodyPost_ret (results_cell_row_tmp rfl _ _ w.heap.size _ _ (0, 0) _ rfl ((V1.out.set 0 _).set 1 _) Tryz.underlying36 rfl (by kernel_rfl)) rfl ?_
    obtain rfl := hR
    exact ⟨⟨_, _, _, _, rfl⟩, below_set (below_one' B1) (Nat.le_refl _) _ _⟩
  by_cases h210 : op = 210
  · subst h210
    replace hR : R = _ := hR.symm.trans rfl
    clear G
    replace hR := hR.symm
    go_enter Tryz.func141, Tryz.ntmps141
    go_wp2_with (go_at_call 193; refine (oof_any _ _ _ _ _ _ _).mono ?_; rintro e w1 ⟨rfl, hb⟩; have B1 := below3 (by first | exact HB1.out | exact HB1.out.alloc (by simp) _ | exact (HB1.out.alloc (by simp) _).alloc (by simp) _) hb; have V1 := Lib.hid (V.out.below B1 (by omega)); obtain ⟨q0, q1⟩ := cells2 V1.out; have z0 := V1.out.froz 0; have z1 := V1.out.froz 1; have hlt := V1.out.lt)
    refine bodyPost_ret (results_cell_row_tmp rfl _ _ w.heap.size _ _ (0, 0) _ rfl ((V1.out.set 0 _).set 1 _) Tryz.underlying36 rfl (by kernel_rfl)) rfl ?_
    obtain rfl := hR
    exact ⟨⟨_, _, _, _, rfl⟩, below_set (below_one' B1) (Nat.le_refl _) _ _⟩
  by_cases h64 : op = 64
  · subst h64
    replace hR : R = _ := hR.symm.trans rfl
    clear G
    replace hR := hR.symm
    go_enter Tryz.func141, Tryz.ntmps141
    go_wp2_with (go_at_call 193; refine (oof_any _ _ _ _ _ _ _).mono ?_; rintro e w1 ⟨rfl, hb⟩; have B1 := below3 (by first | exact HB1.out | exact HB1.out.alloc (by simp) _ | exact (HB1.out.alloc (by simp) _).alloc (by simp) _) hb; have V1 := Lib.hid (V.out.below B1 (by omega)); obtain ⟨q0, q1⟩ := cells2 V1.out; have z0 := V1.out.froz 0; have z1 := V1.out.froz 1; have hlt := V1.out.lt)
    refine bodyPost_ret (results_cell_row_tmp rfl _ _ w.heap.size _ _ (0, 0) _ rfl ((V1.out.set 0 _).set 1 _) Tryz.underlying36 rfl (by kernel_rfl)) rfl ?_
    obtain rfl := hR
    exact ⟨⟨_, _, _, _, rfl⟩, below_set (below_one' B1) (Nat.le_refl _) _ _⟩
  by_cases h64523 : op = 64523
  · subst h64523
    replace hR : R = _ := hR.symm.trans rfl
    clear G
    replace hR := hR.symm
    go_enter Tryz.func141, Tryz.ntmps141
    go_wp2_with (go_at_call 193; refine (oof_any _ _ _ _ _ _ _).mono ?_; rintro e w1 ⟨rfl, hb⟩; have B1 := below3 (by first | exact HB1.out | exact HB1.out.alloc (by simp) _ | exact (HB1.out.alloc (by simp) _).alloc (by simp) _) hb; have V1 := Lib.hid (V.out.below B1 (by omega)); obtain ⟨q0, q1⟩ := cells2 V1.out; have z0 := V1.out.froz 0; have z1 := V1.out.froz 1; have hlt := V1.out.lt)
    refine bodyPost_ret (results_cell_row_tmp rfl _ _ w.heap.size _ _ (0, 0) _ rfl ((V1.out.set 0 _).set 1 _) Tryz.underlying36 rfl (by kernel_rfl)) rfl ?_
    obtain rfl := hR
    exact ⟨⟨_, _, _, _, rfl⟩, below_set (below_one' B1) (Nat.le_refl _) _ _⟩
  by_cases h64522 : op = 64522
  · subst h64522
    replace hR : R = _ := hR.symm.trans rfl
    clear G
    replace hR := hR.symm
    go_enter Tryz.func141, Tryz.ntmps141
    go_wp2_with (go_at_call 193; refine (oof_any _ _ _ _ _ _ _).mono ?_; rintro e w1 ⟨rfl, hb⟩; have B1 := below3 (by first | exact HB1.out | exact HB1.out.alloc (by simp) _ | exact (HB1.out.alloc (by simp) _).alloc (by simp) _) hb; have V1 := Lib.hid (V.out.below B1 (by omega)); obtain ⟨q0, q1⟩ := cells2 V1.out; have z0 := V1.out.froz 0; have z1 := V1.out.froz 1; have hlt := V1.out.lt)
    refine bodyPost_ret (results_cell_row_tmp rfl _ _ w.heap.size _ _ (0, 0) _ rfl ((V1.out.set 0 _).set 1 _) Tryz.underlying36 rfl (by kernel_rfl)) rfl ?_
    obtain rfl := hR
    exact ⟨⟨_, _, _, _, rfl⟩, below_set (below_one' B1) (Nat.le_refl _) _ _⟩
  by_cases h64520 : op = 64520
  · subst h64520
    replace hR : R = _ := hR.symm.trans rfl
    clear G
    replace hR := hR.symm
    go_enter Tryz.func141, Tryz.ntmps141
    go_wp2_with (go_at_call 193; refine (oof_any _ _ _ _ _ _ _).mono ?_; rintro e w1 ⟨rfl, hb⟩; have B1 := below3 (by first | exact HB1.out | exact HB1.out.alloc (by simp) _ | exact (HB1.out.alloc (by simp) _).alloc (by simp) _) hb; have V1 := Lib.hid (V.out.below B1 (by omega)); obtain ⟨q0, q1⟩ := cells2 V1.out; have z0 := V1.out.froz 0; have z1 := V1.out.froz 1; have hlt := V1.out.lt)
    refine bodyPost_ret (results_cell_row_tmp rfl _ _ w.heap.size _ _ (0, 0) _ rfl ((V1.out.set 0 _).set 1 _) Tryz.underlying36 rfl (by kernel_rfl)) rfl ?_
    obtain rfl := hR
    exact ⟨⟨_, _, _, _, rfl⟩, below_set (below_one' B1) (Nat.le_refl _) _ _⟩
  by_cases h64526 : op = 64526
  · subst h64526
    replace hR : R = _ := hR.symm.trans rfl
    clear G
    replace hR := hR.symm
    go_enter Tryz.func141, Tryz.ntmps141
    go_wp2_with (go_at_call 193; refine (oof_any _ _ _ _ _ _ _).mono ?_; rintro e w1 ⟨rfl, hb⟩; have B1 := below3 (by first | exact HB1.out | exact HB1.out.alloc (by simp) _ | exact (HB1.out.alloc (by simp) _).alloc (by simp) _) hb; have V1 := Lib.hid (V.out.below B1 (by omega)); obtain ⟨q0, q1⟩ := cells2 V1.out; have z0 := V1.out.froz 0; have z1 := V1.out.froz 1; have hlt := V1.out.lt)
    refine bodyPost_ret (results_cell_row_tmp rfl _ _ w.heap.size _ _ (0, 0) _ rfl ((V1.out.set 0 _).set 1 _) Tryz.underlying36 rfl (by kernel_rfl)) rfl ?_
    obtain rfl := hR
    exact ⟨⟨_, _, _, _, rfl⟩, below_set (below_one' B1) (Nat.le_refl _) _ _⟩
  by_cases h64524 : op = 64524
  · subst h64524
    replace hR : R = _ := hR.symm.trans rfl
    clear G
    replace hR := hR.symm
    go_enter Tryz.func141, Tryz.ntmps141
    go_wp2_with (go_at_call 193; refine (oof_any _ _ _ _ _ _ _).mono ?_; rintro e w1 ⟨rfl, hb⟩; have B1 := below3 (by first | exact HB1.out | exact HB1.out.alloc (by simp) _ | exact (HB1.out.alloc (by simp) _).alloc (by simp) _) hb; have V1 := Lib.hid (V.out.below B1 (by omega)); obtain ⟨q0, q1⟩ := cells2 V1.out; have z0 := V1.out.froz 0; have z1 := V1.out.froz 1; have hlt := V1.out.lt)
    refine bodyPost_ret (results_cell_row_tmp rfl _ _ w.heap.size _ _ (0, 0) _ rfl ((V1.out.set 0 _).set 1 _) Tryz.underlying36 rfl (by kernel_rfl)) rfl ?_
    obtain rfl := hR
    exact ⟨⟨_, _, _, _, rfl⟩, below_set (below_one' B1) (Nat.le_refl _) _ _⟩
  by_cases h167 : op = 167
  · subst h167
    replace hR : R = _ := hR.symm.trans rfl
    clear G
    replace hR := hR.symm
    go_enter Tryz.func141, Tryz.ntmps141
    go_wp2_with (go_at_call 193; refine (oof_any _ _ _ _ _ _ _).mono ?_; rintro e w1 ⟨rfl, hb⟩; have B1 := below3 (by first | exact HB1.out | exact HB1.out.alloc (by simp) _ | exact (HB1.out.alloc (by simp) _).alloc (by simp) _) hb; have V1 := Lib.hid (V.out.below B1 (by omega)); obtain ⟨q0, q1⟩ := cells2 V1.out; have z0 := V1.out.froz 0; have z1 := V1.out.froz 1; have hlt := V1.out.lt)
    refine bodyPost_ret (results_cell_row_tmp rfl _ _ w.heap.size _ _ (0, 0) _ rfl ((V1.out.set 0 _).set 1 _) Tryz.underlying36 rfl (by kernel_rfl)) rfl ?_
    obtain rfl := hR
    exact ⟨⟨_, _, _, _, rfl⟩, below_set (below_one' B1) (Nat.le_refl _) _ _⟩
  by_cases h172 : op = 172
  · subst h172
    replace hR : R = _ := hR.symm.trans rfl
    clear G
    replace hR := hR.symm
    go_enter Tryz.func141, Tryz.ntmps141
    go_wp2_with (go_at_call 193; refine (oof_any _ _ _ _ _ _ _).mono ?_; rintro e w1 ⟨rfl, hb⟩; have B1 := below3 (by first | exact HB1.out | exact HB1.out.alloc (by simp) _ | exact (HB1.out.alloc (by simp) _).alloc (by simp) _) hb; have V1 := Lib.hid (V.out.below B1 (by omega)); obtain ⟨q0, q1⟩ := cells2 V1.out; have z0 := V1.out.froz 0; have z1 := V1.out.froz 1; have hlt := V1.out.lt)
    refine bodyPost_ret (results_cell_row_tmp rfl _ _ w.heap.size _ _ (0, 0) _ rfl ((V1.out.set 0 _).set 1 _) Tryz.underlying36 rfl (by kernel_rfl)) rfl ?_
    obtain rfl := hR
    exact ⟨⟨_, _, _, _, rfl⟩, below_set (below_one' B1) (Nat.le_refl _) _ _⟩
  by_cases h173 : op = 173
  · subst h173
    replace hR : R = _ := hR.symm.trans rfl
    clear G
    replace hR := hR.symm
    go_enter Tryz.func141, Tryz.ntmps141
    go_wp2_with (go_at_call 193; refine (oof_any _ _ _ _ _ _ _).mono ?_; rintro e w1 ⟨rfl, hb⟩; have B1 := below3 (by first | exact HB1.out | exact HB1.out.alloc (by simp) _ | exact (HB1.out.alloc (by simp) _).alloc (by simp) _) hb; have V1 := Lib.hid (V.out.below B1 (by omega)); obtain ⟨q0, q1⟩ := cells2 V1.out; have z0 := V1.out.froz 0; have z1 := V1.out.froz 1; have hlt := V1.out.lt)
    refine bodyPost_ret (results_cell_row_tmp rfl _ _ w.heap.size _ _ (0, 0) _ rfl ((V1.out.set 0 _).set 1 _) Tryz.underlying36 rfl (by kernel_rfl)) rfl ?_
    obtain rfl := hR
    exact ⟨⟨_, _, _, _, rfl⟩, below_set (below_one' B1) (Nat.le_refl _) _ _⟩
  have hc : Mc.sigC op = none := by unfold Mc.sigC; simp [h1, h64525, h64521, h65, h63, h64528, h66, h210, h64, h64523, h64522, h64520, h64526, h64524, h167, h172, h173]
  rw [hc] at hR
  dsimp only at hR
  have b1 : (op == 1) = false := by rw [beq_eq_false_iff_ne]; exact h1
  have b64525 : (op == 64525) = false := by rw [beq_eq_false_iff_ne]; exact h64525
  have b64521 : (op == 64521) = false := by rw [beq_eq_false_iff_ne]; exact h64521
  have b65 : (op == 65) = false := by rw [beq_eq_false_iff_ne]; exact h65
  have b63 : (op == 63) = false := by rw [beq_eq_false_iff_ne]; exact h63
  have b64528 : (op == 64528) = false := by rw [beq_eq_false_iff_ne]; exact h64528
  have b66 : (op == 66) = false := by rw [beq_eq_false_iff_ne]; exact h66
  have b210 : (op == 210) = false := by rw [beq_eq_false_iff_ne]; exact h210
  have b64 : (op == 64) = false := by rw [beq_eq_false_iff_ne]; exact h64
  have b64523 : (op == 64523) = false := by rw [beq_eq_false_iff_ne]; exact h64523
  have b64522 : (op == 64522) = false := by rw [beq_eq_false_iff_ne]; exact h64522
  have b64520 : (op == 64520) = false := by rw [beq_eq_false_iff_ne]; exact h64520
  have b64526 : (op == 64526) = false := by rw [beq_eq_false_iff_ne]; exact h64526
  have b64524 : (op == 64524) = false := by rw [beq_eq_false_iff_ne]; exact h64524
  have b167 : (op == 167) = false := by rw [beq_eq_false_iff_ne]; exact h167
  have b172 : (op == 172) = false := by rw [beq_eq_false_iff_ne]; exact h172
  have b173 : (op == 173) = false := by rw [beq_eq_false_iff_ne]; exact h173
  clear hc h1 h64525 h64521 h65 h63 h64528 h66 h210 h64 h64523 h64522 h64520 h64526 h64524 h167 h172 h173
  have HN := Lib.hid (fun W (G : Glob W) => oname_in op W G)
  obtain ⟨s, hs⟩ : ∃ s, Opc.name op = s := ⟨_, rfl⟩
  rw [hs] at HN hR
  have HG := Lib.hid (G.on (((Below.refl w.heap.size w).alloc (Nat.le_refl _) (.cells #[.slice none 0 0, .slice none 0 0] 36)).alloc (by simp) (.cells #[.int .i64 1, .int .i64 1, .int .i64 1] 68)) (Nat.le_refl _))
  have H1 := Lib.hid (fun W => hasPrefix_any s Mc.i32d W)
  have H2 := Lib.hid (fun W => hasPrefix_any s Mc.i64d W)
  have l1 := prefix_len (s := s) (p := Mc.i32d)
  have l2 := prefix_len (s := s) (p := Mc.i64d)
  unfold Mc.begN at hR
  obtain ⟨p1, e1⟩ : ∃ b, Lib.hasPrefix s Mc.i32d = b := ⟨_, rfl⟩
  obtain ⟨p2, e2⟩ : ∃ b, Lib.hasPrefix s Mc.i64d = b := ⟨_, rfl⟩
  rw [e1] at H1 hR l1
  rw [e2] at H2 hR l2
  have hlen : p1 = true ∨ p2 = true → 4 ≤ s.length := fun h => by
    rcases h with h | h
    · exact l1 h
    · exact l2 h
  unfold Mc.i32d at H1
  unfold Mc.i64d at H2
  clear e1 e2 hs G l1 l2
  go_enter Tryz.func141, Tryz.ntmps141
  go_upto_region 29 with (go_at_call 70; refine (HN.out _ HG.out).mono ?_; rintro e w1 ⟨rfl, hb⟩; have B1 := below3 HB1.out hb)
  refine at_code (F := fun W => Hid (Below (w.heap.size + 1) (w.alloc (.cells #[.slice none 0 0, .slice none 0 0] 36)) W)) (Lib.hid B1) ?_
  clear B1 hb HN HG HB0 HB1
  intro W HB
  have V1 := Lib.hid (V.out.below HB.out (by omega))
  clear V
  obtain ⟨q0, q1⟩ := cells2 V1.out
  have z0 := V1.out.froz 0
  have z1 := V1.out.froz 1
  have hlt := V1.out.lt
  by_cases hpp : p1 = true ∨ p2 = true
  case neg =>
    obtain rfl : p1 = false := by simpa using fun h => hpp (.inl h)
    obtain rfl : p2 = false := by simpa using fun h => hpp (.inr h)
    clear hlen hpp
    go_wp2_with (go_at_call 143; first | (refine (H1.out _).mono ?_; rintro e w1 ⟨rfl, rfl⟩) | (refine (H2.out _).mono ?_; rintro e w1 ⟨rfl, rfl⟩))
    refine bodyPost_ret (results_cell_row_tmp rfl _ _ w.heap.size _ _ (0, 0) _ rfl ((V1.out.set 0 _).set 1 _) Tryz.underlying36 rfl (by kernel_rfl)) rfl ?_
    obtain rfl := hR
    exact ⟨⟨_, _, _, _, rfl⟩, below_set (below_one' HB.out) (Nat.le_refl _) _ _⟩
  have h4 := hlen hpp
  have hR2 : (Mc.numC op (s.drop 4), true) = R := by rw [← hR, if_pos (by rcases hpp with h | h <;> rw [h] <;> simp)]
  obtain ⟨p, hp⟩ : ∃ p, Mc.numC op (s.drop 4) = p := ⟨_, rfl⟩
  have HNu := Lib.hid (fun (t : Int) W => onumber_any op t (s.drop 4) W)
  rw [hp] at HNu hR2
  have HBe := Lib.hid (fun W => obegins_any s W)
  have hx4 : (4 : Int) ≤ (s.length : Int) := by omega
  have hbl : (ByteArray.mk s.toArray).size = s.length := by simp [ByteArray.size]
  have hxt := ext_drop s 4 s.length rfl
  clear hR hlen hp
  obtain ⟨t4, ht4⟩ : ∃ t, s.drop 4 = t := ⟨_, rfl⟩
  rw [ht4] at HNu hxt
  clear ht4 h4
  have hpp : p1 = true ∨ p1 = false ∧ p2 = true := by
    rcases p1 with _ | _
    · right; exact ⟨rfl, hpp.resolve_left (by decide)⟩
    · left; rfl
  rcases hpp with rfl | ⟨rfl, rfl⟩
  · skip
    go_upto_region 31 with (go_at_call 143; first | (refine (H1.out _).mono ?_; rintro e w1 ⟨rfl, rfl⟩) | (refine (H2.out _).mono ?_; rintro e w1 ⟨rfl, rfl⟩))
    refine wp_region_held_drew (S := (fun _ => True)) (by kernel_rfl) ?_ (fun hHeld0 => ?_)
    · first | assumption | go_keep
    refine tk (i := 0) rfl ?_
    refine tk (i := 1) rfl ?_
    refine tk (i := 3) rfl ?_
    refine tk (i := 4) rfl ?_; (try simp only [zS, zN, zT, zC, zZ])
    refine wpAnyH_ready (rs := [2]) (by kernel_rfl) (by simp) ?_
    refine AllReadyH.cons rfl (fun K hK => ?_) AllReadyH.nil
    go_simp
    (refine (HBe.out _).mono ?_; rintro e w2 ⟨⟨t, rfl⟩, rfl⟩)
    (try dsimp only)
    refine hK.out _ _ ?_ (fun hHeld1 => ?_)
    · first | trivial | ((try dsimp only); first | assumption | trivial | go_keep)
    clear hK K hHeld0
    (try simp only [zS, zN, zT, zC, zZ])
    refine wpAnyH_ready (rs := [5]) (by kernel_rfl) (by simp) ?_
    refine AllReadyH.cons rfl (fun K hK => ?_) AllReadyH.nil
    go_simp
    (refine (HNu.out _ _).mono ?_; rintro e w3 ⟨⟨A, c, B, d, rfl⟩, hb⟩; have BX := HB.out.trans (((below_drewN W 1).trans (hb.mono (Nat.le_refl _))).mono (by have := HB.out.size; simpa using this)); have V3 := Lib.hid (Var.below V1.out ((below_drewN W 1).trans (hb.mono (Nat.le_refl _))) hlt))
    (try dsimp only)
    refine hK.out _ _ ?_ (fun hHeld2 => ?_)
    · first | trivial | ((try dsimp only); first | assumption | trivial | go_keep)
    clear hK K hHeld1
    (try simp only [zS, zN, zT, zC, zZ])
    refine wpAnyH_ready (rs := [6]) (by kernel_rfl) (by simp) ?_
    refine AllReadyH.cons rfl (fun K hK => ?_) AllReadyH.nil
    (rw [if_pos (by rfl)]; refine wp_store_row 36 (.tmp 2) (.tmp 69) rfl w.heap.size #[.slice A p.1 c, .slice B p.2 d] rfl rfl 36 #[.slice none 0 0, .slice none 0 0] V3.out info_func2 rfl (by simp [Value.oneCell']) ?_)
    (try dsimp only)
    refine hK.out _ _ ?_ (fun hHeld3 => ?_)
    · first | trivial | ((try dsimp only); first | assumption | trivial | go_keep)
    clear hK K hHeld2
    (try simp only [zS, zN, zT, zC, zZ])
    refine tk (i := 7) (oi := ⟨some 3, .assign (.const (.bool true)), 4, "sig.go:47", #[⟨6, .chain⟩, ⟨0, .phase⟩, ⟨1, .phase⟩, ⟨2, .phase⟩, ⟨3, .phase⟩, ⟨4, .phase⟩, ⟨5, .phase⟩, ⟨6, .phase⟩], none⟩) rfl ?_; (try simp only [zS, zN, zT, zC, zZ])
    refine wpAnyH_done (by kernel_rfl) ?_ _
    (try dsimp only)
    repeat (first | go_values | go_skip | go_guarded | go_step | go_upon)
    refine bodyPost_ret (results_cell_row_tmp rfl _ _ w.heap.size _ #[.slice A p.1 c, .slice B p.2 d] (0, 0) _ rfl (setRow_heap w3 w.heap.size #[.slice none 0 0, .slice none 0 0] _ _ (0, 0) V3.out) Tryz.underlying36 rfl (by kernel_rfl)) rfl ?_
    obtain rfl := hR2
    exact ⟨⟨A, c, B, d, rfl⟩, below_grown (below_one' BX) (setRow_grown w3 w.heap.size _) (below_one' BX).size (Nat.le_refl _)⟩
  · skip
    go_upto_region 31 with (go_at_call 143; first | (refine (H1.out _).mono ?_; rintro e w1 ⟨rfl, rfl⟩) | (refine (H2.out _).mono ?_; rintro e w1 ⟨rfl, rfl⟩))
    refine wp_region_held_drew (S := (fun _ => True)) (by kernel_rfl) ?_ (fun hHeld0 => ?_)
    · first | assumption | go_keep
    refine tk (i := 0) rfl ?_
    refine tk (i := 1) rfl ?_
    refine tk (i := 3) rfl ?_
    refine tk (i := 4) rfl ?_; (try simp only [zS, zN, zT, zC, zZ])
    refine wpAnyH_ready (rs := [2]) (by kernel_rfl) (by simp) ?_
    refine AllReadyH.cons rfl (fun K hK => ?_) AllReadyH.nil
    go_simp
    (refine (HBe.out _).mono ?_; rintro e w2 ⟨⟨t, rfl⟩, rfl⟩)
    (try dsimp only)
    refine hK.out _ _ ?_ (fun hHeld1 => ?_)
    · first | trivial | ((try dsimp only); first | assumption | trivial | go_keep)
    clear hK K hHeld0
    (try simp only [zS, zN, zT, zC, zZ])
    refine wpAnyH_ready (rs := [5]) (by kernel_rfl) (by simp) ?_
    refine AllReadyH.cons rfl (fun K hK => ?_) AllReadyH.nil
    go_simp
    (refine (HNu.out _ _).mono ?_; rintro e w3 ⟨⟨A, c, B, d, rfl⟩, hb⟩; have BX := HB.out.trans (((below_drewN W 1).trans (hb.mono (Nat.le_refl _))).mono (by have := HB.out.size; simpa using this)); have V3 := Lib.hid (Var.below V1.out ((below_drewN W 1).trans (hb.mono (Nat.le_refl _))) hlt))
    (try dsimp only)
    refine hK.out _ _ ?_ (fun hHeld2 => ?_)
    · first | trivial | ((try dsimp only); first | assumption | trivial | go_keep)
    clear hK K hHeld1
    (try simp only [zS, zN, zT, zC, zZ])
    refine wpAnyH_ready (rs := [6]) (by kernel_rfl) (by simp) ?_
    refine AllReadyH.cons rfl (fun K hK => ?_) AllReadyH.nil
    (rw [if_pos (by rfl)]; refine wp_store_row 36 (.tmp 2) (.tmp 69) rfl w.heap.size #[.slice A p.1 c, .slice B p.2 d] rfl rfl 36 #[.slice none 0 0, .slice none 0 0] V3.out info_func2 rfl (by simp [Value.oneCell']) ?_)
    (try dsimp only)
    refine hK.out _ _ ?_ (fun hHeld3 => ?_)
    · first | trivial | ((try dsimp only); first | assumption | trivial | go_keep)
    clear hK K hHeld2
    (try simp only [zS, zN, zT, zC, zZ])
    refine tk (i := 7) (oi := ⟨some 3, .assign (.const (.bool true)), 4, "sig.go:47", #[⟨6, .chain⟩, ⟨0, .phase⟩, ⟨1, .phase⟩, ⟨2, .phase⟩, ⟨3, .phase⟩, ⟨4, .phase⟩, ⟨5, .phase⟩, ⟨6, .phase⟩], none⟩) rfl ?_; (try simp only [zS, zN, zT, zC, zZ])
    refine wpAnyH_done (by kernel_rfl) ?_ _
    (try dsimp only)
    repeat (first | go_values | go_skip | go_guarded | go_step | go_upon)
    refine bodyPost_ret (results_cell_row_tmp rfl _ _ w.heap.size _ #[.slice A p.1 c, .slice B p.2 d] (0, 0) _ rfl (setRow_heap w3 w.heap.size #[.slice none 0 0, .slice none 0 0] _ _ (0, 0) V3.out) Tryz.underlying36 rfl (by kernel_rfl)) rfl ?_
    obtain rfl := hR2
    exact ⟨⟨A, c, B, d, rfl⟩, below_grown (below_one' BX) (setRow_grown w3 w.heap.size _) (below_one' BX).size (Nat.le_refl _)⟩
end Go.Proofs.YtadnfekogmjieaaGreatDoor
