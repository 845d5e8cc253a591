/-
  Layer 51: what the checker asks of an opcode: access, begins, of, number, Sig. (Printed by gen_mc1.py.)
-/
import Derived.Test.YtadnfekogmjieaaGreatDoorGGI
import Derived.Test.YtadnfekogmjieaaGreatDoorGGJ
import Derived.Test.YtadnfekogmjieaaGreatDoorGGE
import Derived.Test.YtadnfekogmjieaaGreatDoorGTk
import Derived.Deep.RegionHeld3
set_option linter.unusedVariables false
set_option linter.unusedSimpArgs false
namespace Go.Proofs.YtadnfekogmjieaaGreatDoor
open Go.RowKit
theorem hasPrefix_any (s p : List UInt8) (w : World) : Calls Tryz.prog 143 #[.string ⟨s.toArray⟩, .string ⟨p.toArray⟩] w fun e w' => e = .returned (.bool (Lib.hasPrefix s p)) ∧ w = w' :=
  (Tryz.strings_HasPrefix ⟨s.toArray⟩ ⟨p.toArray⟩ w).mono fun _ _ h => ⟨h.1, h.2.symm⟩
set_option maxHeartbeats 2000000 in
set_option maxRecDepth 100000 in
theorem oaccess_any (op : Int) (w : World) (G : Glob w) : Calls Tryz.prog 196 #[.int .i64 op] w fun e w' => e = .returned (.bool (Mc.accO op)) ∧ Below w.heap.size w w' := by
  have HK := Lib.hid (oknown_any op w G)
  unfold Mc.accO
  obtain ⟨b, hb⟩ : ∃ b, (!(Opc.name op == [])) = b := ⟨_, rfl⟩
  rw [hb] at HK ⊢
  clear hb G
  rcases h1 : decide (40 ≤ op) with _ | _
  · go_enter Tryz.func196, Tryz.ntmps196
    go_wp2
    go_ret
    exact ⟨rfl, Below.refl _ _⟩
  rcases h2 : decide (op ≤ 62) with _ | _
  · go_enter Tryz.func196, Tryz.ntmps196
    go_wp2
    go_ret
    exact ⟨rfl, Below.refl _ _⟩
  · go_enter Tryz.func196, Tryz.ntmps196
    go_wp2_with (go_at_call 121; refine HK.out.mono ?_; rintro e w1 ⟨rfl, hb⟩)
    go_ret
    exact ⟨rfl, hb⟩
theorem obegins_any (s : List UInt8) (w : World) : Calls Tryz.prog 195 #[.string ⟨s.toArray⟩] w fun e w' => (∃ t : Int, e = .returned (.int .i64 t)) ∧ w = w' := by
  have HP := Lib.hid (hasPrefix_any s [105, 54, 52] w)
  obtain ⟨b, hb⟩ : ∃ b, Lib.hasPrefix s [105, 54, 52] = b := ⟨_, rfl⟩
  rw [hb] at HP
  clear hb
  rcases b with _ | _
  all_goals
    go_enter Tryz.func195, Tryz.ntmps195
    go_wp2_with (go_at_call 143; refine HP.out.mono ?_; rintro e w1 ⟨rfl, rfl⟩)
    go_ret
    exact ⟨⟨_, rfl⟩, rfl⟩
theorem oof_any (A : Option Addr) (n c : Nat) (B : Option Addr) (m d : Nat) (w : World) : Calls Tryz.prog 193 #[.slice A n c, .slice B m d] w fun e w' => e = .returned (.agg #[.slice A n c, .slice B m d]) ∧ Below w.heap.size w w' := by
  have V := Lib.hid (Var.new w #[.slice A n c, .slice B m d] 36)
  have HB := Lib.hid ((Below.refl w.heap.size w).alloc (Nat.le_refl _) (.cells #[.slice A n c, .slice B m d] 36))
  go_enter Tryz.func193, Tryz.ntmps193
  go_wp2
  refine bodyPost_ret (results_cell_row rfl _ _ w.heap.size _ _ (0, 0) _ rfl V.out Tryz.underlying36 rfl (by kernel_rfl)) rfl ?_
  exact ⟨rfl, HB.out⟩
theorem below_one' {w w1 : World} {o : Obj} (h : Below (w.heap.size + 1) (w.alloc o) w1) : Below w.heap.size w w1 := ((Below.refl w.heap.size w).alloc (Nat.le_refl _) o).trans (h.mono (Nat.le_succ _))
def FnOut (p : Nat × Nat) (e : Ending) : Prop := ∃ A c B d, e = .returned (.agg #[.slice A p.1 c, .slice B p.2 d])
theorem below3 {w w1 : World} {o : Obj} {W : World} (h0 : Below (w.heap.size + 1) (w.alloc o) W) (hb : Below W.heap.size W w1) : Below (w.heap.size + 1) (w.alloc o) w1 := h0.trans (hb.mono (by have := h0.size; simpa using this))

set_option maxHeartbeats 4000000 in
set_option maxRecDepth 100000 in
theorem onumber_any (op t : Int) (s : List UInt8) (w : World) : Calls Tryz.prog 194 #[.int .i64 op, .int .i64 t, .string ⟨s.toArray⟩] w fun e w' => FnOut (Mc.numC op s) e ∧ Below w.heap.size w w' := by
  obtain ⟨R, hR⟩ : ∃ R, Mc.numC op s = R := ⟨_, rfl⟩
  rw [hR]
  unfold Mc.numC at hR
  have HL := Lib.hid (fun W => hasPrefix_any s Mc.lLoad W)
  have HS := Lib.hid (fun W => hasPrefix_any s Mc.lStore W)
  have HE := Lib.hid (fun W => hasPrefix_any s Mc.lExt W)
  obtain ⟨pl, e1⟩ : ∃ b, Lib.hasPrefix s Mc.lLoad = b := ⟨_, rfl⟩
  obtain ⟨pst, e2⟩ : ∃ b, Lib.hasPrefix s Mc.lStore = b := ⟨_, rfl⟩
  obtain ⟨pe, e3⟩ : ∃ b, Lib.hasPrefix s Mc.lExt = b := ⟨_, rfl⟩
  rw [e1] at HL hR
  rw [e2] at HS hR
  rw [e3] at HE hR
  unfold Mc.lLoad at HL
  unfold Mc.lStore at HS
  unfold Mc.lExt at HE
  clear e1 e2 e3
  have V := Lib.hid (Var.new w #[.slice none 0 0, .slice none 0 0] 36)
  have HB0 := Lib.hid (Below.refl (w.heap.size + 1) (w.alloc (.cells #[.slice none 0 0, .slice none 0 0] 36)))
  rcases pl with _ | _
  case true =>
    rw [if_pos rfl] at hR
    go_enter Tryz.func194, Tryz.ntmps194
    go_wp2_with (first
      | (go_at_call 143; first | (refine (HL.out _).mono ?_; rintro e w1 ⟨rfl, rfl⟩) | (refine (HS.out _).mono ?_; rintro e w1 ⟨rfl, rfl⟩) | (refine (HE.out _).mono ?_; rintro e w1 ⟨rfl, rfl⟩))
      | (go_at_call 193; refine (oof_any _ _ _ _ _ _ _).mono ?_; rintro e w1 ⟨rfl, hb⟩; have B1 := below3 (by first | exact HB0.out.alloc (by simp) _ | exact (HB0.out.alloc (by simp) _).alloc (by simp) _) hb; have V1 := Lib.hid (V.out.below B1 (by omega)); obtain ⟨q0, q1⟩ := cells2 V1.out; have z0 := V1.out.froz 0; have z1 := V1.out.froz 1; have hlt := V1.out.lt))
    refine bodyPost_ret (results_cell_row rfl _ _ w.heap.size _ _ (0, 0) _ rfl ((V1.out.set 0 _).set 1 _) Tryz.underlying36 rfl (by kernel_rfl)) rfl ?_
    obtain rfl := hR
    exact ⟨⟨_, _, _, _, rfl⟩, below_set (below_one' B1) (Nat.le_refl _) _ _⟩
  rw [if_neg (by decide)] at hR
  rcases pst with _ | _
  case true =>
    rw [if_pos rfl] at hR
    go_enter Tryz.func194, Tryz.ntmps194
    go_wp2_with (first
      | (go_at_call 143; first | (refine (HL.out _).mono ?_; rintro e w1 ⟨rfl, rfl⟩) | (refine (HS.out _).mono ?_; rintro e w1 ⟨rfl, rfl⟩) | (refine (HE.out _).mono ?_; rintro e w1 ⟨rfl, rfl⟩))
      | (go_at_call 193; refine (oof_any _ _ _ _ _ _ _).mono ?_; rintro e w1 ⟨rfl, hb⟩; have B1 := below3 (by first | exact HB0.out.alloc (by simp) _ | exact (HB0.out.alloc (by simp) _).alloc (by simp) _) hb; have V1 := Lib.hid (V.out.below B1 (by omega)); obtain ⟨q0, q1⟩ := cells2 V1.out; have z0 := V1.out.froz 0; have z1 := V1.out.froz 1; have hlt := V1.out.lt))
    refine bodyPost_ret (results_cell_row rfl _ _ w.heap.size _ _ (0, 0) _ rfl ((V1.out.set 0 _).set 1 _) Tryz.underlying36 rfl (by kernel_rfl)) rfl ?_
    obtain rfl := hR
    exact ⟨⟨_, _, _, _, rfl⟩, below_set (below_one' B1) (Nat.le_refl _) _ _⟩
  rw [if_neg (by decide)] at hR
  by_cases h3 : s = Mc.lEqz
  · rw [if_pos h3] at hR
    subst h3
    unfold Mc.lEqz at *
    go_enter Tryz.func194, Tryz.ntmps194
    go_wp2_with (first
      | (go_at_call 143; first | (refine (HL.out _).mono ?_; rintro e w1 ⟨rfl, rfl⟩) | (refine (HS.out _).mono ?_; rintro e w1 ⟨rfl, rfl⟩) | (refine (HE.out _).mono ?_; rintro e w1 ⟨rfl, rfl⟩))
      | (go_at_call 193; refine (oof_any _ _ _ _ _ _ _).mono ?_; rintro e w1 ⟨rfl, hb⟩; have B1 := below3 (by first | exact HB0.out.alloc (by simp) _ | exact (HB0.out.alloc (by simp) _).alloc (by simp) _) hb; have V1 := Lib.hid (V.out.below B1 (by omega)); obtain ⟨q0, q1⟩ := cells2 V1.out; have z0 := V1.out.froz 0; have z1 := V1.out.froz 1; have hlt := V1.out.lt))
    refine bodyPost_ret (results_cell_row rfl _ _ w.heap.size _ _ (0, 0) _ rfl ((V1.out.set 0 _).set 1 _) Tryz.underlying36 rfl (by kernel_rfl)) rfl ?_
    obtain rfl := hR
    exact ⟨⟨_, _, _, _, rfl⟩, below_set (below_one' B1) (Nat.le_refl _) _ _⟩
  rw [if_neg h3] at hR
  have qh3 := beq_no h3
  have rh3 : (s == Mc.lEqz) = false := by simpa using h3
  unfold Mc.lEqz at *
  by_cases h4 : 70 ≤ op ∧ op ≤ 90
  · rw [if_pos h4] at hR
    have g1 : (70 : Int) ≤ op := h4.1
    have g2 : op ≤ 90 := h4.2
    have d1 : decide ((70 : Int) ≤ op) = true := by simpa using g1
    have d2 : decide (op ≤ 90) = true := by simpa using g2
    clear h4
    go_enter Tryz.func194, Tryz.ntmps194
    go_wp2_with (first
      | (go_at_call 143; first | (refine (HL.out _).mono ?_; rintro e w1 ⟨rfl, rfl⟩) | (refine (HS.out _).mono ?_; rintro e w1 ⟨rfl, rfl⟩) | (refine (HE.out _).mono ?_; rintro e w1 ⟨rfl, rfl⟩))
      | (go_at_call 193; refine (oof_any _ _ _ _ _ _ _).mono ?_; rintro e w1 ⟨rfl, hb⟩; have B1 := below3 (by first | exact HB0.out.alloc (by simp) _ | exact (HB0.out.alloc (by simp) _).alloc (by simp) _) hb; have V1 := Lib.hid (V.out.below B1 (by omega)); obtain ⟨q0, q1⟩ := cells2 V1.out; have z0 := V1.out.froz 0; have z1 := V1.out.froz 1; have hlt := V1.out.lt))
    refine bodyPost_ret (results_cell_row rfl _ _ w.heap.size _ _ (0, 0) _ rfl ((V1.out.set 0 _).set 1 _) Tryz.underlying36 rfl (by kernel_rfl)) rfl ?_
    obtain rfl := hR
    exact ⟨⟨_, _, _, _, rfl⟩, below_set (below_one' B1) (Nat.le_refl _) _ _⟩
  rw [if_neg h4] at hR
  have h4' : decide ((70 : Int) ≤ op) = false ∨ decide ((70 : Int) ≤ op) = true ∧ decide (op ≤ 90) = false := by
    by_cases h : 70 ≤ op
    · right; exact ⟨by simpa using h, by rw [decide_eq_false_iff_not]; exact fun h2 => h4 ⟨h, h2⟩⟩
    · left; simpa using h
  clear h4
  by_cases h5 : s = Mc.lClz
  · rw [if_pos (by simp [h5])] at hR
    subst h5
    unfold Mc.lClz at *
    rcases h4' with d1 | ⟨d1, d2⟩
    · skip
      go_enter Tryz.func194, Tryz.ntmps194
      go_wp2_with (first
        | (go_at_call 143; first | (refine (HL.out _).mono ?_; rintro e w1 ⟨rfl, rfl⟩) | (refine (HS.out _).mono ?_; rintro e w1 ⟨rfl, rfl⟩) | (refine (HE.out _).mono ?_; rintro e w1 ⟨rfl, rfl⟩))
        | (go_at_call 193; refine (oof_any _ _ _ _ _ _ _).mono ?_; rintro e w1 ⟨rfl, hb⟩; have B1 := below3 (by first | exact HB0.out.alloc (by simp) _ | exact (HB0.out.alloc (by simp) _).alloc (by simp) _) hb; have V1 := Lib.hid (V.out.below B1 (by omega)); obtain ⟨q0, q1⟩ := cells2 V1.out; have z0 := V1.out.froz 0; have z1 := V1.out.froz 1; have hlt := V1.out.lt))
      refine bodyPost_ret (results_cell_row rfl _ _ w.heap.size _ _ (0, 0) _ rfl ((V1.out.set 0 _).set 1 _) Tryz.underlying36 rfl (by kernel_rfl)) rfl ?_
      obtain rfl := hR
      exact ⟨⟨_, _, _, _, rfl⟩, below_set (below_one' B1) (Nat.le_refl _) _ _⟩
    · skip
      go_enter Tryz.func194, Tryz.ntmps194
      go_wp2_with (first
        | (go_at_call 143; first | (refine (HL.out _).mono ?_; rintro e w1 ⟨rfl, rfl⟩) | (refine (HS.out _).mono ?_; rintro e w1 ⟨rfl, rfl⟩) | (refine (HE.out _).mono ?_; rintro e w1 ⟨rfl, rfl⟩))
        | (go_at_call 193; refine (oof_any _ _ _ _ _ _ _).mono ?_; rintro e w1 ⟨rfl, hb⟩; have B1 := below3 (by first | exact HB0.out.alloc (by simp) _ | exact (HB0.out.alloc (by simp) _).alloc (by simp) _) hb; have V1 := Lib.hid (V.out.below B1 (by omega)); obtain ⟨q0, q1⟩ := cells2 V1.out; have z0 := V1.out.froz 0; have z1 := V1.out.froz 1; have hlt := V1.out.lt))
      refine bodyPost_ret (results_cell_row rfl _ _ w.heap.size _ _ (0, 0) _ rfl ((V1.out.set 0 _).set 1 _) Tryz.underlying36 rfl (by kernel_rfl)) rfl ?_
      obtain rfl := hR
      exact ⟨⟨_, _, _, _, rfl⟩, below_set (below_one' B1) (Nat.le_refl _) _ _⟩
  have qh5 := beq_no h5
  have rh5 : (s == Mc.lClz) = false := by simpa using h5
  have h5' := h5
  by_cases h6 : s = Mc.lCtz
  · rw [if_pos (by simp [h6])] at hR
    subst h6
    unfold Mc.lCtz at *
    rcases h4' with d1 | ⟨d1, d2⟩
    · skip
      go_enter Tryz.func194, Tryz.ntmps194
      go_wp2_with (first
        | (go_at_call 143; first | (refine (HL.out _).mono ?_; rintro e w1 ⟨rfl, rfl⟩) | (refine (HS.out _).mono ?_; rintro e w1 ⟨rfl, rfl⟩) | (refine (HE.out _).mono ?_; rintro e w1 ⟨rfl, rfl⟩))
        | (go_at_call 193; refine (oof_any _ _ _ _ _ _ _).mono ?_; rintro e w1 ⟨rfl, hb⟩; have B1 := below3 (by first | exact HB0.out.alloc (by simp) _ | exact (HB0.out.alloc (by simp) _).alloc (by simp) _) hb; have V1 := Lib.hid (V.out.below B1 (by omega)); obtain ⟨q0, q1⟩ := cells2 V1.out; have z0 := V1.out.froz 0; have z1 := V1.out.froz 1; have hlt := V1.out.lt))
      refine bodyPost_ret (results_cell_row rfl _ _ w.heap.size _ _ (0, 0) _ rfl ((V1.out.set 0 _).set 1 _) Tryz.underlying36 rfl (by kernel_rfl)) rfl ?_
      obtain rfl := hR
      exact ⟨⟨_, _, _, _, rfl⟩, below_set (below_one' B1) (Nat.le_refl _) _ _⟩
    · skip
      go_enter Tryz.func194, Tryz.ntmps194
      go_wp2_with (first
        | (go_at_call 143; first | (refine (HL.out _).mono ?_; rintro e w1 ⟨rfl, rfl⟩) | (refine (HS.out _).mono ?_; rintro e w1 ⟨rfl, rfl⟩) | (refine (HE.out _).mono ?_; rintro e w1 ⟨rfl, rfl⟩))
        | (go_at_call 193; refine (oof_any _ _ _ _ _ _ _).mono ?_; rintro e w1 ⟨rfl, hb⟩; have B1 := below3 (by first | exact HB0.out.alloc (by simp) _ | exact (HB0.out.alloc (by simp) _).alloc (by simp) _) hb; have V1 := Lib.hid (V.out.below B1 (by omega)); obtain ⟨q0, q1⟩ := cells2 V1.out; have z0 := V1.out.froz 0; have z1 := V1.out.froz 1; have hlt := V1.out.lt))
      refine bodyPost_ret (results_cell_row rfl _ _ w.heap.size _ _ (0, 0) _ rfl ((V1.out.set 0 _).set 1 _) Tryz.underlying36 rfl (by kernel_rfl)) rfl ?_
      obtain rfl := hR
      exact ⟨⟨_, _, _, _, rfl⟩, below_set (below_one' B1) (Nat.le_refl _) _ _⟩
  have qh6 := beq_no h6
  have rh6 : (s == Mc.lCtz) = false := by simpa using h6
  have h6' := h6
  by_cases h7 : s = Mc.lPop
  · rw [if_pos (by simp [h7])] at hR
    subst h7
    unfold Mc.lPop at *
    rcases h4' with d1 | ⟨d1, d2⟩
    · skip
      go_enter Tryz.func194, Tryz.ntmps194
      go_wp2_with (first
        | (go_at_call 143; first | (refine (HL.out _).mono ?_; rintro e w1 ⟨rfl, rfl⟩) | (refine (HS.out _).mono ?_; rintro e w1 ⟨rfl, rfl⟩) | (refine (HE.out _).mono ?_; rintro e w1 ⟨rfl, rfl⟩))
        | (go_at_call 193; refine (oof_any _ _ _ _ _ _ _).mono ?_; rintro e w1 ⟨rfl, hb⟩; have B1 := below3 (by first | exact HB0.out.alloc (by simp) _ | exact (HB0.out.alloc (by simp) _).alloc (by simp) _) hb; have V1 := Lib.hid (V.out.below B1 (by omega)); obtain ⟨q0, q1⟩ := cells2 V1.out; have z0 := V1.out.froz 0; have z1 := V1.out.froz 1; have hlt := V1.out.lt))
      refine bodyPost_ret (results_cell_row rfl _ _ w.heap.size _ _ (0, 0) _ rfl ((V1.out.set 0 _).set 1 _) Tryz.underlying36 rfl (by kernel_rfl)) rfl ?_
      obtain rfl := hR
      exact ⟨⟨_, _, _, _, rfl⟩, below_set (below_one' B1) (Nat.le_refl _) _ _⟩
    · skip
      go_enter Tryz.func194, Tryz.ntmps194
      go_wp2_with (first
        | (go_at_call 143; first | (refine (HL.out _).mono ?_; rintro e w1 ⟨rfl, rfl⟩) | (refine (HS.out _).mono ?_; rintro e w1 ⟨rfl, rfl⟩) | (refine (HE.out _).mono ?_; rintro e w1 ⟨rfl, rfl⟩))
        | (go_at_call 193; refine (oof_any _ _ _ _ _ _ _).mono ?_; rintro e w1 ⟨rfl, hb⟩; have B1 := below3 (by first | exact HB0.out.alloc (by simp) _ | exact (HB0.out.alloc (by simp) _).alloc (by simp) _) hb; have V1 := Lib.hid (V.out.below B1 (by omega)); obtain ⟨q0, q1⟩ := cells2 V1.out; have z0 := V1.out.froz 0; have z1 := V1.out.froz 1; have hlt := V1.out.lt))
      refine bodyPost_ret (results_cell_row rfl _ _ w.heap.size _ _ (0, 0) _ rfl ((V1.out.set 0 _).set 1 _) Tryz.underlying36 rfl (by kernel_rfl)) rfl ?_
      obtain rfl := hR
      exact ⟨⟨_, _, _, _, rfl⟩, below_set (below_one' B1) (Nat.le_refl _) _ _⟩
  have qh7 := beq_no h7
  have rh7 : (s == Mc.lPop) = false := by simpa using h7
  have h7' := h7
  rcases pe with _ | _
  · rw [if_neg (by simp [h5', h6', h7'])] at hR
    unfold Mc.lClz Mc.lCtz Mc.lPop at *
    clear h5' h6' h7'
    rcases h4' with d1 | ⟨d1, d2⟩
    · skip
      go_enter Tryz.func194, Tryz.ntmps194
      go_wp2_with (first
        | (go_at_call 143; first | (refine (HL.out _).mono ?_; rintro e w1 ⟨rfl, rfl⟩) | (refine (HS.out _).mono ?_; rintro e w1 ⟨rfl, rfl⟩) | (refine (HE.out _).mono ?_; rintro e w1 ⟨rfl, rfl⟩))
        | (go_at_call 193; refine (oof_any _ _ _ _ _ _ _).mono ?_; rintro e w1 ⟨rfl, hb⟩; have B1 := below3 (by first | exact HB0.out.alloc (by simp) _ | exact (HB0.out.alloc (by simp) _).alloc (by simp) _) hb; have V1 := Lib.hid (V.out.below B1 (by omega)); obtain ⟨q0, q1⟩ := cells2 V1.out; have z0 := V1.out.froz 0; have z1 := V1.out.froz 1; have hlt := V1.out.lt))
      refine bodyPost_ret (results_cell_row rfl _ _ w.heap.size _ _ (0, 0) _ rfl ((V1.out.set 0 _).set 1 _) Tryz.underlying36 rfl (by kernel_rfl)) rfl ?_
      obtain rfl := hR
      exact ⟨⟨_, _, _, _, rfl⟩, below_set (below_one' B1) (Nat.le_refl _) _ _⟩
    · skip
      go_enter Tryz.func194, Tryz.ntmps194
      go_wp2_with (first
        | (go_at_call 143; first | (refine (HL.out _).mono ?_; rintro e w1 ⟨rfl, rfl⟩) | (refine (HS.out _).mono ?_; rintro e w1 ⟨rfl, rfl⟩) | (refine (HE.out _).mono ?_; rintro e w1 ⟨rfl, rfl⟩))
        | (go_at_call 193; refine (oof_any _ _ _ _ _ _ _).mono ?_; rintro e w1 ⟨rfl, hb⟩; have B1 := below3 (by first | exact HB0.out.alloc (by simp) _ | exact (HB0.out.alloc (by simp) _).alloc (by simp) _) hb; have V1 := Lib.hid (V.out.below B1 (by omega)); obtain ⟨q0, q1⟩ := cells2 V1.out; have z0 := V1.out.froz 0; have z1 := V1.out.froz 1; have hlt := V1.out.lt))
      refine bodyPost_ret (results_cell_row rfl _ _ w.heap.size _ _ (0, 0) _ rfl ((V1.out.set 0 _).set 1 _) Tryz.underlying36 rfl (by kernel_rfl)) rfl ?_
      obtain rfl := hR
      exact ⟨⟨_, _, _, _, rfl⟩, below_set (below_one' B1) (Nat.le_refl _) _ _⟩
  · rw [if_pos (by simp)] at hR
    unfold Mc.lClz Mc.lCtz Mc.lPop at *
    clear h5' h6' h7'
    rcases h4' with d1 | ⟨d1, d2⟩
    · skip
      go_enter Tryz.func194, Tryz.ntmps194
      go_wp2_with (first
        | (go_at_call 143; first | (refine (HL.out _).mono ?_; rintro e w1 ⟨rfl, rfl⟩) | (refine (HS.out _).mono ?_; rintro e w1 ⟨rfl, rfl⟩) | (refine (HE.out _).mono ?_; rintro e w1 ⟨rfl, rfl⟩))
        | (go_at_call 193; refine (oof_any _ _ _ _ _ _ _).mono ?_; rintro e w1 ⟨rfl, hb⟩; have B1 := below3 (by first | exact HB0.out.alloc (by simp) _ | exact (HB0.out.alloc (by simp) _).alloc (by simp) _) hb; have V1 := Lib.hid (V.out.below B1 (by omega)); obtain ⟨q0, q1⟩ := cells2 V1.out; have z0 := V1.out.froz 0; have z1 := V1.out.froz 1; have hlt := V1.out.lt))
      refine bodyPost_ret (results_cell_row rfl _ _ w.heap.size _ _ (0, 0) _ rfl ((V1.out.set 0 _).set 1 _) Tryz.underlying36 rfl (by kernel_rfl)) rfl ?_
      obtain rfl := hR
      exact ⟨⟨_, _, _, _, rfl⟩, below_set (below_one' B1) (Nat.le_refl _) _ _⟩
    · skip
      go_enter Tryz.func194, Tryz.ntmps194
      go_wp2_with (first
        | (go_at_call 143; first | (refine (HL.out _).mono ?_; rintro e w1 ⟨rfl, rfl⟩) | (refine (HS.out _).mono ?_; rintro e w1 ⟨rfl, rfl⟩) | (refine (HE.out _).mono ?_; rintro e w1 ⟨rfl, rfl⟩))
        | (go_at_call 193; refine (oof_any _ _ _ _ _ _ _).mono ?_; rintro e w1 ⟨rfl, hb⟩; have B1 := below3 (by first | exact HB0.out.alloc (by simp) _ | exact (HB0.out.alloc (by simp) _).alloc (by simp) _) hb; have V1 := Lib.hid (V.out.below B1 (by omega)); obtain ⟨q0, q1⟩ := cells2 V1.out; have z0 := V1.out.froz 0; have z1 := V1.out.froz 1; have hlt := V1.out.lt))
      refine bodyPost_ret (results_cell_row rfl _ _ w.heap.size _ _ (0, 0) _ rfl ((V1.out.set 0 _).set 1 _) Tryz.underlying36 rfl (by kernel_rfl)) rfl ?_
      obtain rfl := hR
      exact ⟨⟨_, _, _, _, rfl⟩, below_set (below_one' B1) (Nat.le_refl _) _ _⟩
end Go.Proofs.YtadnfekogmjieaaGreatDoor
