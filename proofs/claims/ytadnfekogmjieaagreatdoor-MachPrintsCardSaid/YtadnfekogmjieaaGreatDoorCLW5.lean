/-
  Layer 51, the laws: MachPrints. (Printed by gen_lw5.py.)
-/
import Derived.Test.YtadnfekogmjieaaGreatDoorCLWF
import Derived.Test.YtadnfekogmjieaaGreatDoorCGP
import Derived.Test.YtadnfekogmjieaaGreatDoorCMR6
set_option linter.unusedVariables false
set_option linter.unusedSimpArgs false
namespace Go.Proofs.YtadnfekogmjieaaGreatDoor
open Go.RowKit
open Mc (Pl Mi Mf Th Wt Im Md)
theorem FSt.two {w : World} {x y : Mf} {S S' : Nat → Prop} {P R C P' R' C' : Option Addr} {a1 a2 a3 b1 b2 b3 : Nat} (h : MfAt S w x P R C) (h' : MfAt S' w y P' R' C') (G : GlobM w) :
    FSt w ((w.alloc (.cells (mfV x P a1 R a2 C a3) 39)).alloc (.cells (mfV y P' b1 R' b2 C' b3) 39)) w.heap.size x S P a1 R a2 C a3 ∧ FSt w ((w.alloc (.cells (mfV x P a1 R a2 C a3) 39)).alloc (.cells (mfV y P' b1 R' b2 C' b3) 39)) (w.heap.size + 1) y S' P' b1 R' b2 C' b3 := by
  have hb := ((Below.refl w.heap.size w).alloc (Nat.le_refl _) (.cells (mfV x P a1 R a2 C a3) 39)).alloc (by simp) (.cells (mfV y P' b1 R' b2 C' b3) 39)
  refine ⟨⟨hb, (Var.new _ _ _).alloc _, h.on hb, G⟩, ⟨hb, ?_, h'.on hb, G⟩⟩
  have hv := Var.new (w.alloc (.cells (mfV x P a1 R a2 C a3) 39)) (mfV y P' b1 R' b2 C' b3) 39
  simpa using hv
set_option maxHeartbeats 16000000 in
set_option maxRecDepth 100000 in
/-- MachPrints. -/
theorem prints_walk (x : Mf) (hqx : ∀ z ∈ x.code, QMi z) (hsx : InR x.slots) (y : Mf) (hqy : ∀ z ∈ y.code, QMi z) (hsy : InR y.slots) (S S' : Nat → Prop) (P : Option Addr) (a1 : Nat) (R : Option Addr) (a2 : Nat) (C : Option Addr) (a3 : Nat) (P' : Option Addr) (b1 : Nat) (R' : Option Addr) (b2 : Nat) (C' : Option Addr) (b3 : Nat) (w : World) (G : GlobM w) (h : MfAt S w x P R C) (h' : MfAt S' w y P' R' C') :
    Calls Tryz.prog 4 #[.agg (mfV x P a1 R a2 C a3), .agg (mfV y P' b1 R' b2 C' b3)] w fun e w' => e = .returned (.bool true) ∧ Below w.heap.size w w' := by
  obtain ⟨I0, J0⟩ := FSt.two (a1 := a1) (a2 := a2) (a3 := a3) (b1 := b1) (b2 := b2) (b3 := b3) h h' G
  have HI := Lib.hid I0
  have HJ := Lib.hid J0
  have HLx := Lib.hid (fun W (h : MfAt S W x P R C) => light_any x S P a1 R a2 C a3 W h)
  have HLy := Lib.hid (fun W (h : MfAt S' W y P' R' C') => light_any y S' P' b1 R' b2 C' b3 W h)
  have HA := Lib.hid (fun W (G : GlobM W) => alive_any W G)
  unfold mfV at HLx HLy
  rcases hlx : Mc.lightB x with _ | _
  · rw [hlx] at HLx
    clear hqx hsx hqy hsy h h' G hlx I0 J0
    go_enter Tryz.func4, Tryz.ntmps4
    go_upto_region 1 with fail
    refine at_code (F := fun W => Hid (FSt w W w.heap.size x S P a1 R a2 C a3) ∧ Hid (FSt w W (w.heap.size + 1) y S' P' b1 R' b2 C' b3)) ⟨HI, HJ⟩ ?_
    clear HI HJ
    rintro W ⟨I, J⟩
    obtain ⟨y0, y1, y2, y3⟩ := mfV_cells I.out.var
    obtain ⟨z0, z1, z2, z3⟩ := mfV_cells J.out.var
    go_wp2_with (first
      | (go_at_call 10; (with_reducible refine (HLx.out _ I.out.at_).mono ?_); rintro e w1 ⟨rfl, hb⟩; replace I := Lib.hid (I.out.step hb); replace J := Lib.hid (J.out.step hb); clear hb y0 y1 y2 y3 z0 z1 z2 z3; obtain ⟨y0, y1, y2, y3⟩ := mfV_cells I.out.var; obtain ⟨z0, z1, z2, z3⟩ := mfV_cells J.out.var)
      | (go_at_call 11; (with_reducible refine (HA.out _ I.out.glob).mono ?_); rintro e w2 ⟨rfl, hb⟩; replace I := Lib.hid (I.out.step hb); replace J := Lib.hid (J.out.step hb); clear hb y0 y1 y2 y3 z0 z1 z2 z3; obtain ⟨y0, y1, y2, y3⟩ := mfV_cells I.out.var; obtain ⟨z0, z1, z2, z3⟩ := mfV_cells J.out.var))
    go_ret
    exact ⟨rfl, I.out.bel⟩
  rw [hlx] at HLx
  rcases hly : Mc.lightB y with _ | _
  · rw [hly] at HLy
    clear hqx hsx hqy hsy h h' G hlx hly I0 J0
    go_enter Tryz.func4, Tryz.ntmps4
    go_upto_region 1 with fail
    refine at_code (F := fun W => Hid (FSt w W w.heap.size x S P a1 R a2 C a3) ∧ Hid (FSt w W (w.heap.size + 1) y S' P' b1 R' b2 C' b3)) ⟨HI, HJ⟩ ?_
    clear HI HJ
    rintro W ⟨I, J⟩
    obtain ⟨y0, y1, y2, y3⟩ := mfV_cells I.out.var
    obtain ⟨z0, z1, z2, z3⟩ := mfV_cells J.out.var
    go_wp2_with (first
      | (go_at_call 10; first
        | ((with_reducible refine (HLx.out _ I.out.at_).mono ?_); clear HLx; rintro e w1 ⟨rfl, hb⟩; replace I := Lib.hid (I.out.step hb); replace J := Lib.hid (J.out.step hb); clear hb y0 y1 y2 y3 z0 z1 z2 z3; obtain ⟨y0, y1, y2, y3⟩ := mfV_cells I.out.var; obtain ⟨z0, z1, z2, z3⟩ := mfV_cells J.out.var)
        | ((with_reducible refine (HLy.out _ J.out.at_).mono ?_); clear HLy; rintro e w1 ⟨rfl, hb⟩; replace I := Lib.hid (I.out.step hb); replace J := Lib.hid (J.out.step hb); clear hb y0 y1 y2 y3 z0 z1 z2 z3; obtain ⟨y0, y1, y2, y3⟩ := mfV_cells I.out.var; obtain ⟨z0, z1, z2, z3⟩ := mfV_cells J.out.var))
      | (go_at_call 11; (with_reducible refine (HA.out _ I.out.glob).mono ?_); rintro e w2 ⟨rfl, hb⟩; replace I := Lib.hid (I.out.step hb); replace J := Lib.hid (J.out.step hb); clear hb y0 y1 y2 y3 z0 z1 z2 z3; obtain ⟨y0, y1, y2, y3⟩ := mfV_cells I.out.var; obtain ⟨z0, z1, z2, z3⟩ := mfV_cells J.out.var))
    go_ret
    exact ⟨rfl, I.out.bel⟩
  rw [hly] at HLy
  have okx := light_ok (Mc.lightB_iff.1 hlx) hqx hsx
  have HP := Lib.hid (fun W (G : GlobM W) (h : MfAt S W x P R C) => print_any x okx S P a1 R a2 C a3 W G h)
  have HRP := Lib.hid (fun W (h : MfAt S W x P R C) => rprint_any x okx S P a1 R a2 C a3 W h)
  have HSM := Lib.hid (fun W (h : MfAt S W x P R C) (h' : MfAt S' W y P' R' C') => same_mf_any x y okx.ps okx.rs (by have := okx.code.1; omega) (ok_lists okx) S S' P a1 R a2 C a3 P' b1 R' b2 C' b3 W h h')
  have HSR := Lib.hid (fun W (h : MfAt S W x P R C) (h' : MfAt S' W y P' R' C') => rsame_mf_any x y okx.ps okx.rs (by have := okx.code.1; omega) (ok_lists okx) S S' P a1 R a2 C a3 P' b1 R' b2 C' b3 W h h')
  have HSS := Lib.hid (fun W (h : MfAt S W x P R C) (h' : MfAt S W x P R C) => same_mf_any x x okx.ps okx.rs (by have := okx.code.1; omega) (ok_lists okx) S S P a1 R a2 C a3 P a1 R a2 C a3 W h h')
  rw [decide_eq_true (p := x = x) rfl] at HSS
  have HSZ := Lib.hid (fun W => size_any x P a1 R a2 C a3 W)
  obtain ⟨T, hT⟩ : ∃ T, Mc.print x = T := ⟨_, rfl⟩
  obtain ⟨q, hq⟩ : ∃ q, decide (x = y) = q := ⟨_, rfl⟩
  rw [hT] at HP HRP
  rw [hq] at HSM HSR
  unfold mfV at HP HRP HSM HSR HSS HSZ
  have e1 : (T == T) = true := by simp
  have e2 : (q == q) = true := by simp
  clear hT hq okx hlx hly hqx hsx hqy hsy h h' G I0 J0
  go_enter Tryz.func4, Tryz.ntmps4
  go_upto_region 1 with fail
  refine at_code (F := fun W => Hid (FSt w W w.heap.size x S P a1 R a2 C a3) ∧ Hid (FSt w W (w.heap.size + 1) y S' P' b1 R' b2 C' b3)) ⟨HI, HJ⟩ ?_
  clear HI HJ
  rintro W ⟨I, J⟩
  obtain ⟨y0, y1, y2, y3⟩ := mfV_cells I.out.var
  obtain ⟨z0, z1, z2, z3⟩ := mfV_cells J.out.var
  go_upto_region 3 with (go_at_call 10; first
        | ((with_reducible refine (HLx.out _ I.out.at_).mono ?_); clear HLx; rintro e w1 ⟨rfl, hb⟩; replace I := Lib.hid (I.out.step hb); replace J := Lib.hid (J.out.step hb); clear hb y0 y1 y2 y3 z0 z1 z2 z3; obtain ⟨y0, y1, y2, y3⟩ := mfV_cells I.out.var; obtain ⟨z0, z1, z2, z3⟩ := mfV_cells J.out.var)
        | ((with_reducible refine (HLy.out _ J.out.at_).mono ?_); clear HLy; rintro e w1 ⟨rfl, hb⟩; replace I := Lib.hid (I.out.step hb); replace J := Lib.hid (J.out.step hb); clear hb y0 y1 y2 y3 z0 z1 z2 z3; obtain ⟨y0, y1, y2, y3⟩ := mfV_cells I.out.var; obtain ⟨z0, z1, z2, z3⟩ := mfV_cells J.out.var))
  refine at_code (F := fun W => Hid (FSt w W w.heap.size x S P a1 R a2 C a3) ∧ Hid (FSt w W (w.heap.size + 1) y S' P' b1 R' b2 C' b3)) ⟨I, J⟩ ?_
  clear I J y0 y1 y2 y3 z0 z1 z2 z3
  rintro W3 ⟨I, J⟩
  obtain ⟨y0, y1, y2, y3⟩ := mfV_cells I.out.var
  obtain ⟨z0, z1, z2, z3⟩ := mfV_cells J.out.var
  replace I := Lib.hid (I.out.step (show Below W3.heap.size W3 (World.drew W3) from below_drewN W3 1))
  replace J := Lib.hid (J.out.step (show Below W3.heap.size W3 (World.drew W3) from below_drewN W3 1))
  go_region_held3 (fun w' => w'.cell? ⟨w.heap.size, 0, none⟩ = some (.slice P x.ps.length a1) ∧ w'.cell? ⟨w.heap.size, 1, none⟩ = some (.slice R x.rs.length a2) ∧ w'.cell? ⟨w.heap.size, 2, none⟩ = some (.int .i64 x.slots) ∧ w'.cell? ⟨w.heap.size, 3, none⟩ = some (.slice C x.code.length a3) ∧ w'.cell? ⟨w.heap.size + 1, 0, none⟩ = some (.slice P' y.ps.length b1) ∧ w'.cell? ⟨w.heap.size + 1, 1, none⟩ = some (.slice R' y.rs.length b2) ∧ w'.cell? ⟨w.heap.size + 1, 2, none⟩ = some (.int .i64 y.slots) ∧ w'.cell? ⟨w.heap.size + 1, 3, none⟩ = some (.slice C' y.code.length b3))
    (go_keep)
    (first
      | (go_at_call 14; (with_reducible refine (HP.out _ I.out.glob I.out.at_).mono ?_); rintro e w2 ⟨rfl, hb⟩; replace I := Lib.hid (I.out.step hb); replace J := Lib.hid (J.out.step hb); clear hb y0 y1 y2 y3 z0 z1 z2 z3; obtain ⟨y0, y1, y2, y3⟩ := mfV_cells I.out.var; obtain ⟨z0, z1, z2, z3⟩ := mfV_cells J.out.var)
      | (go_at_call 15; (with_reducible refine (HRP.out _ I.out.at_).mono ?_); rintro e w2 ⟨rfl, hb⟩; replace I := Lib.hid (I.out.step hb); replace J := Lib.hid (J.out.step hb); clear hb y0 y1 y2 y3 z0 z1 z2 z3; obtain ⟨y0, y1, y2, y3⟩ := mfV_cells I.out.var; obtain ⟨z0, z1, z2, z3⟩ := mfV_cells J.out.var)
      | (go_at_call 16; first
        | ((with_reducible refine (HSM.out _ I.out.at_ J.out.at_).mono ?_); clear HSM; rintro e w2 ⟨rfl, hb⟩; replace I := Lib.hid (I.out.step hb); replace J := Lib.hid (J.out.step hb); clear hb y0 y1 y2 y3 z0 z1 z2 z3; obtain ⟨y0, y1, y2, y3⟩ := mfV_cells I.out.var; obtain ⟨z0, z1, z2, z3⟩ := mfV_cells J.out.var)
        | ((with_reducible refine (HSS.out _ I.out.at_ I.out.at_).mono ?_); rintro e w2 ⟨rfl, hb⟩; replace I := Lib.hid (I.out.step hb); replace J := Lib.hid (J.out.step hb); clear hb y0 y1 y2 y3 z0 z1 z2 z3; obtain ⟨y0, y1, y2, y3⟩ := mfV_cells I.out.var; obtain ⟨z0, z1, z2, z3⟩ := mfV_cells J.out.var))
      | (go_at_call 17; (with_reducible refine (HSR.out _ I.out.at_ J.out.at_).mono ?_); rintro e w2 ⟨rfl, hb⟩; replace I := Lib.hid (I.out.step hb); replace J := Lib.hid (J.out.step hb); clear hb y0 y1 y2 y3 z0 z1 z2 z3; obtain ⟨y0, y1, y2, y3⟩ := mfV_cells I.out.var; obtain ⟨z0, z1, z2, z3⟩ := mfV_cells J.out.var)
      | (go_at_call 18; (with_reducible refine (HSZ.out _).mono ?_); rintro e w2 ⟨rfl, hb⟩; replace I := Lib.hid (I.out.step hb); replace J := Lib.hid (J.out.step hb); clear hb y0 y1 y2 y3 z0 z1 z2 z3; obtain ⟨y0, y1, y2, y3⟩ := mfV_cells I.out.var; obtain ⟨z0, z1, z2, z3⟩ := mfV_cells J.out.var)
      | (go_at_call 11; (with_reducible refine (HA.out _ I.out.glob).mono ?_); rintro e w2 ⟨rfl, hb⟩; replace I := Lib.hid (I.out.step hb); replace J := Lib.hid (J.out.step hb); clear hb y0 y1 y2 y3 z0 z1 z2 z3; obtain ⟨y0, y1, y2, y3⟩ := mfV_cells I.out.var; obtain ⟨z0, z1, z2, z3⟩ := mfV_cells J.out.var))
  all_goals
    go_wp2
    go_ret
    exact ⟨rfl, I.out.bel⟩
end Go.Proofs.YtadnfekogmjieaaGreatDoor
