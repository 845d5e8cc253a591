/-
  Layer 51, the program: wants, at three kinds. (Printed by gen_low.py.)
  Layer 51, the program: right, at three kinds. (Printed by gen_low.py.)
  Layer 51, the program: Check, at three kinds. (Printed by gen_low.py.)
-/
import Derived.Test.YtadnfekogmjieaaGreatDoorFMC7
import Derived.Test.YtadnfekogmjieaaGreatDoorFGV
import Derived.Test.YtadnfekogmjieaaGreatDoorFMC13
set_option linter.unusedVariables false
set_option linter.unusedSimpArgs false
namespace Go.Proofs.YtadnfekogmjieaaGreatDoor
open Go.RowKit
open Mc (Pl Mi Mf Th Wt Im Md)
set_option maxHeartbeats 16000000 in
set_option maxRecDepth 100000 in
/-- (mach.things).wants, at the known kinds. -/
theorem mwants_low (t : Th) (hf : t.Few) (X : TX) (x : Mi) (hkk : x.kind = 0 ∨ x.kind = 1 ∨ x.kind = 22) (D : Option Addr) (c1 : Nat) (E : Option Addr) (c2 : Nat) (T : Option Addr) (c3 : Nat) (f : Mf) (P : Option Addr) (p1 : Nat) (R0 : Option Addr) (p2 : Nat) (C : Option Addr) (p3 : Nat) (S0 : Nat → Prop) (w : World) (G : Glob w) (h : ThRd S0 w t X) :
    Calls Tryz.prog 56 #[.agg (thA t X), .agg (miV x D c1 E c2 T c3), .agg (mfV f P p1 R0 p2 C p3)] w fun e w' => e = .returned (.agg (wtV (Mc.want t x f.rs.length))) ∧ Below w.heap.size w w' := by
  obtain ⟨R, hR⟩ : ∃ R, Mc.want t x f.rs.length = R := ⟨_, rfl⟩
  rw [hR]
  have wm := wrap_pred hf.mm
  have hB0 := Lib.hid (B4.new w (thA t X) (miV x D c1 E c2 T c3) (mfV f P p1 R0 p2 C p3))
  have HT := Lib.hid (h.on hB0.out.bel)
  have HG := Lib.hid (G.below hB0.out.bel)
  clear h G
  go_enter Tryz.func56, Tryz.ntmps56
  go_upto_region 1 with fail
  refine at_code (F := fun W => Hid (B4 w W (thA t X) (miV x D c1 E c2 T c3) (mfV f P p1 R0 p2 C p3)) ∧ Hid (ThRd S0 W t X) ∧ Hid (Glob W)) ⟨Lib.hid hB0.out, HT, HG⟩ ?_
  clear hB0 HT HG
  rintro W ⟨S, HT, HG⟩
  obtain ⟨⟨g0, g1, g2, g3, g4, g5, g6, g7⟩, g8, g9, g10, g11, g12, g13, g14, g15⟩ := thA_cells S.out.th
  obtain ⟨m0, m1, m2, m3, m4, m5, m6, m7, m8⟩ := miV_cells S.out.mi
  obtain ⟨y0, y1, y2, y3⟩ := mfV_cells S.out.mf
  obtain ⟨⟨r0, r1, r2, r3, r4⟩, z0, z1, z2, z3, z4⟩ := cells5 S.out.rs
  have hlt := S.out.rs.lt
  rcases hkk with hk | hk | hk
  · skip
    have hR2 : (⟨1, 0, 0, false, true⟩ : Wt) = R := by rw [← hR]; unfold Mc.want; rw [hk]; rfl
    rw [hk] at m0
    clear hR
    go_wp2_with fail
    refine bodyPost_ret (results_cell_row rfl _ _ (w.heap.size + 3) _ _ (0, 0) _ rfl (put5 S.out.rs _ _ _ _ _).1 Tryz.underlying130 rfl (by kernel_rfl)) rfl ?_
    exact ⟨by rw [← hR2]; rfl, below_grown S.out.bel (put5 S.out.rs _ _ _ _ _).2 S.out.bel.size (by omega)⟩
  · skip
    have hR2 : (⟨1, 1, 0, false, true⟩ : Wt) = R := by rw [← hR]; unfold Mc.want; rw [hk]; rfl
    rw [hk] at m0
    clear hR
    go_wp2_with fail
    refine bodyPost_ret (results_cell_row rfl _ _ (w.heap.size + 3) _ _ (0, 0) _ rfl (put5 S.out.rs _ _ _ _ _).1 Tryz.underlying130 rfl (by kernel_rfl)) rfl ?_
    exact ⟨by rw [← hR2]; rfl, below_grown S.out.bel (put5 S.out.rs _ _ _ _ _).2 S.out.bel.size (by omega)⟩
  · skip
    have hR2 : (⟨0, f.rs.length, 0, false, true⟩ : Wt) = R := by rw [← hR]; unfold Mc.want; rw [hk]; rfl
    rw [hk] at m0
    clear hR
    go_wp2_with fail
    refine bodyPost_ret (results_cell_row rfl _ _ (w.heap.size + 3) _ _ (0, 0) _ rfl (put5 S.out.rs _ _ _ _ _).1 Tryz.underlying130 rfl (by kernel_rfl)) rfl ?_
    exact ⟨by rw [← hR2]; rfl, below_grown S.out.bel (put5 S.out.rs _ _ _ _ _).2 S.out.bel.size (by omega)⟩
end Go.Proofs.YtadnfekogmjieaaGreatDoor
set_option linter.unusedVariables false
set_option linter.unusedSimpArgs false
namespace Go.Proofs.YtadnfekogmjieaaGreatDoor
open Go.RowKit
open Mc (Pl Mi Mf Th Wt Im Md)
set_option maxHeartbeats 16000000 in
set_option maxRecDepth 100000 in
/-- (mach.things).right. -/
theorem mright_low (t : Th) (hf : t.Few) (X : TX) (x : Mi) (hlow : x.kind = 0 ∨ x.kind = 1 ∨ x.kind = 22) (hd : x.d.length ≤ 1000000) (hs : x.s.length ≤ 1000000) (ht : x.tos.length ≤ 1000000) (D : Option Addr) (c1 : Nat) (hc : x.d.length ≤ c1) (E : Option Addr) (c2 : Nat) (T : Option Addr) (c3 : Nat) (f : Mf) (P : Option Addr) (p1 : Nat) (R0 : Option Addr) (p2 : Nat) (C : Option Addr) (p3 : Nat) (regs : Int) (hsl : 0 ≤ f.slots ∧ f.slots ≤ 1000000) (hr : 0 ≤ regs ∧ regs ≤ 1000000) (hcl : f.code.length ≤ 1000000) (S0 S1 : Nat → Prop) (w : World) (G : GlobM w) (h : ThRd S0 w t X) (hm : MiRd S1 w x D E T) :
    Calls Tryz.prog 27 #[.agg (thA t X), .agg (miV x D c1 E c2 T c3), .agg (mfV f P p1 R0 p2 C p3), .int .i64 regs] w fun e w' => e = .returned (.bool (Mc.rightI t x f regs)) ∧ Below w.heap.size w w' := by
  obtain ⟨R, hR⟩ : ∃ R, Mc.rightI t x f regs = R := ⟨_, rfl⟩
  rw [hR]
  unfold Mc.rightI Mc.fits at hR
  have hB0 := Lib.hid (B33.new w (thA t X) (miV x D c1 E c2 T c3) (mfV f P p1 R0 p2 C p3))
  have HSp := Lib.hid (fun W (hb : Below w.heap.size w W) => spare_any x D c1 E c2 T c3 W (G.r.below hb))
  have HWa := Lib.hid (fun hk W (hb : Below w.heap.size w W) => mwants_low t hf X x hk D c1 E c2 T c3 f P p1 R0 p2 C p3 S0 W (G.g.below hb) (h.on hb))
  have HPd := Lib.hid (fun W (hb : Below w.heap.size w W) => mplaces_any S1 D c1 x.d hd f P p1 R0 p2 C p3 regs hsl hr W (RdP.on hm.d hb))
  have HPs := Lib.hid (fun W (hb : Below w.heap.size w W) => mplaces_any S1 E c2 x.s hs f P p1 R0 p2 C p3 regs hsl hr W (RdP.on hm.s hb))
  have HOn := Lib.hid (fun W (hb : Below w.heap.size w W) => once_any S1 D c1 x.d hd hc W (RdP.on hm.d hb))
  have HTo := Lib.hid (fun W (hb : Below w.heap.size w W) V4 => anyBadT_any S1 T c3 x.tos ht f P p1 R0 p2 C p3 hcl (w.heap.size + 2) W V4 (RdZ.on hm.t hb))
  have hany : x.tos.all (Mc.toOk f.code.length) = !x.tos.any (fun p => !Mc.toOk f.code.length p) := by rw [List.not_any_eq_all_not]; simp
  rw [hany] at hR
  clear hany G h hm
  have hkr : Mc.spare x = true → x.kind = 0 ∨ x.kind = 1 ∨ x.kind = 22 := fun _ => hlow
  obtain ⟨sp, e1⟩ : ∃ q, Mc.spare x = q := ⟨_, rfl⟩
  obtain ⟨a1, e2⟩ : ∃ q, x.d.all (Mc.plOk f.slots regs) = q := ⟨_, rfl⟩
  obtain ⟨a2, e3⟩ : ∃ q, x.s.all (Mc.plOk f.slots regs) = q := ⟨_, rfl⟩
  obtain ⟨a3, e4⟩ : ∃ q, Mc.once x.d = q := ⟨_, rfl⟩
  obtain ⟨a4, e5⟩ : ∃ q, x.tos.any (fun p => !Mc.toOk f.code.length p) = q := ⟨_, rfl⟩
  rw [e1] at HSp hkr
  rw [e2] at HPd
  rw [e3] at HPs
  rw [e4] at HOn
  rw [e5] at HTo
  rw [e1, e2, e3, e4, e5] at hR
  obtain ⟨⟨wd, ws, wt, wm, wo⟩, e6⟩ : ∃ q, Mc.want t x f.rs.length = q := ⟨_, rfl⟩
  rw [e6] at HWa hR
  unfold wtV at HWa
  dsimp only at HWa hR
  obtain ⟨b1, l1⟩ : ∃ q, decide (x.d.length = wd) = q := ⟨_, rfl⟩
  obtain ⟨b2, l2⟩ : ∃ q, decide (x.s.length = ws) = q := ⟨_, rfl⟩
  obtain ⟨b3, l3⟩ : ∃ q, decide (wt ≤ x.tos.length) = q := ⟨_, rfl⟩
  obtain ⟨b4, l4⟩ : ∃ q, decide (x.tos.length ≤ wt) = q := ⟨_, rfl⟩
  have k1 : ((x.d.length : Int) != (wd : Int)) = !b1 := by rw [← l1, Bool.eq_iff_iff]; simp; omega
  have k2 : ((x.s.length : Int) != (ws : Int)) = !b2 := by rw [← l2, Bool.eq_iff_iff]; simp; omega
  have k3 : decide ((x.tos.length : Int) < (wt : Int)) = !b3 := by rw [← l3, Bool.eq_iff_iff]; simp
  have k4 : decide ((wt : Int) < (x.tos.length : Int)) = !b4 := by rw [← l4, Bool.eq_iff_iff]; simp
  rw [l1, l2, l3, l4] at hR
  clear e1 e2 e3 e4 e5 e6 l1 l2 l3 l4
  unfold thA miV mfV at HWa
  unfold miV at HSp
  unfold mfV at HPd HPs
  go_enter Tryz.func27, Tryz.ntmps27
  go_upto_region 1 with fail
  refine at_code (F := fun W => Hid (B33 w W (thA t X) (miV x D c1 E c2 T c3) (mfV f P p1 R0 p2 C p3))) (Lib.hid hB0.out) ?_
  clear hB0
  intro W S
  obtain ⟨⟨g0, g1, g2, g3, g4, g5, g6, g7⟩, g8, g9, g10, g11, g12, g13, g14, g15⟩ := thA_cells S.out.th
  obtain ⟨m0, m1, m2, m3, m4, m5, m6, m7, m8⟩ := miV_cells S.out.mi
  obtain ⟨y0, y1, y2, y3⟩ := mfV_cells S.out.mf
  rcases sp with _ | _
  · go_wp2_with (go_at_call 55; refine (HSp.out _ S.out.bel).mono ?_; rintro e w1 ⟨rfl, hb⟩; have BX := S.out.bel.trans (hb.mono S.out.bel.size))
    go_ret
    exact ⟨by rw [← hR]; rfl, BX⟩
  have hkx := hkr rfl
  rw [Bool.true_and] at hR
  go_upto_region 3 with (go_at_call 55; refine (HSp.out _ S.out.bel).mono ?_; rintro e w1 ⟨rfl, hb⟩; have S1' := S.out.below hb)
  refine at_code (F := fun W => Hid (B33 w W (thA t X) (miV x D c1 E c2 T c3) (mfV f P p1 R0 p2 C p3))) (Lib.hid S1') ?_
  clear S S1' hb HSp g0 g1 g2 g3 g4 g5 g6 g7 g8 g9 g10 g11 g12 g13 g14 g15 m0 m1 m2 m3 m4 m5 m6 m7 m8 y0 y1 y2 y3
  intro W S
  obtain ⟨⟨g0, g1, g2, g3, g4, g5, g6, g7⟩, g8, g9, g10, g11, g12, g13, g14, g15⟩ := thA_cells S.out.th
  obtain ⟨m0, m1, m2, m3, m4, m5, m6, m7, m8⟩ := miV_cells S.out.mi
  obtain ⟨y0, y1, y2, y3⟩ := mfV_cells S.out.mf
  go_upto_region 4 with (go_at_call 56; refine (HWa.out hkx _ S.out.bel).mono ?_; rintro e w1 ⟨rfl, hb⟩; have S1' := S.out.below hb)
  refine at_code (F := fun W => Hid (B33 w W (thA t X) (miV x D c1 E c2 T c3) (mfV f P p1 R0 p2 C p3)) ∧ Hid (Var W w1.heap.size #[.int .i64 (wd : Int), .int .i64 (ws : Int), .int .i64 (wt : Int), .bool wm, .bool wo] 130)) ⟨Lib.hid (S1'.below ((Below.refl _ _).alloc (Nat.le_refl _) _)), Lib.hid (Var.new _ _ _)⟩ ?_
  clear S S1' hb HWa g0 g1 g2 g3 g4 g5 g6 g7 g8 g9 g10 g11 g12 g13 g14 g15 m0 m1 m2 m3 m4 m5 m6 m7 m8 y0 y1 y2 y3
  obtain ⟨K4, hK4⟩ : ∃ K, w1.heap.size = K := ⟨_, rfl⟩
  simp only [hK4]
  clear hK4
  rintro W ⟨S, HV⟩
  obtain ⟨m0, m1, m2, m3, m4, m5, m6, m7, m8⟩ := miV_cells S.out.mi
  obtain ⟨y0, y1, y2, y3⟩ := mfV_cells S.out.mf
  obtain ⟨⟨v0, v1, v2, v3, v4⟩, -⟩ := cells5 HV.out
  rcases wo with _ | _
  · go_wp2_with fail
    go_ret
    exact ⟨by rw [← hR]; simp, S.out.bel⟩
  rcases b1 with _ | _
  · go_wp2_with fail
    go_ret
    exact ⟨by rw [← hR]; simp, S.out.bel⟩
  rcases b2 with _ | _
  · go_wp2_with fail
    go_ret
    exact ⟨by rw [← hR]; simp, S.out.bel⟩
  rcases b3 with _ | _
  · have p3 : (x.tos.length : Int) < (wt : Int) := of_decide_eq_true k3
    go_wp2_with fail
    go_ret
    exact ⟨by rw [← hR]; simp, S.out.bel⟩
  have p3 : ¬ (x.tos.length : Int) < (wt : Int) := of_decide_eq_false k3
  have hmo : b4 = true ∨ b4 = false := by cases b4 <;> simp
  clear hmo
  rcases b4 with _ | _
  · have p4 : (wt : Int) < (x.tos.length : Int) := of_decide_eq_true k4
    rcases wm with _ | _
    · go_wp2_with fail
      go_ret
      exact ⟨by rw [← hR]; simp, S.out.bel⟩
    rcases a1 with _ | _
    · skip
      go_wp2_with (first
        | (go_at_call 58; first | (refine (HPd.out _ S.out.bel).mono ?_; clear HPd; rintro e w2 ⟨rfl, hb⟩; have S := Lib.hid (S.out.below hb); clear m0 m1 m2 m3 m4 m5 m6 m7 m8 y0 y1 y2 y3; obtain ⟨m0, m1, m2, m3, m4, m5, m6, m7, m8⟩ := miV_cells S.out.mi; obtain ⟨y0, y1, y2, y3⟩ := mfV_cells S.out.mf) | (refine (HPs.out _ S.out.bel).mono ?_; clear HPs; rintro e w2 ⟨rfl, hb⟩; have S := Lib.hid (S.out.below hb); clear m0 m1 m2 m3 m4 m5 m6 m7 m8 y0 y1 y2 y3; obtain ⟨m0, m1, m2, m3, m4, m5, m6, m7, m8⟩ := miV_cells S.out.mi; obtain ⟨y0, y1, y2, y3⟩ := mfV_cells S.out.mf))
        | (go_at_call 59; refine (HOn.out _ S.out.bel).mono ?_; rintro e w3 ⟨rfl, hb⟩; have S := Lib.hid (S.out.below hb); clear m0 m1 m2 m3 m4 m5 m6 m7 m8 y0 y1 y2 y3; obtain ⟨m0, m1, m2, m3, m4, m5, m6, m7, m8⟩ := miV_cells S.out.mi; obtain ⟨y0, y1, y2, y3⟩ := mfV_cells S.out.mf)
        | (go_at_call 60; refine (HTo.out _ S.out.bel S.out.mf).mono ?_; rintro e w4 ⟨rfl, hb⟩; have S := Lib.hid (S.out.below hb); clear m0 m1 m2 m3 m4 m5 m6 m7 m8 y0 y1 y2 y3; obtain ⟨m0, m1, m2, m3, m4, m5, m6, m7, m8⟩ := miV_cells S.out.mi; obtain ⟨y0, y1, y2, y3⟩ := mfV_cells S.out.mf))
      go_ret
      exact ⟨by rw [← hR]; simp, S.out.bel⟩
    rcases a2 with _ | _
    · skip
      go_wp2_with (first
        | (go_at_call 58; first | (refine (HPd.out _ S.out.bel).mono ?_; clear HPd; rintro e w2 ⟨rfl, hb⟩; have S := Lib.hid (S.out.below hb); clear m0 m1 m2 m3 m4 m5 m6 m7 m8 y0 y1 y2 y3; obtain ⟨m0, m1, m2, m3, m4, m5, m6, m7, m8⟩ := miV_cells S.out.mi; obtain ⟨y0, y1, y2, y3⟩ := mfV_cells S.out.mf) | (refine (HPs.out _ S.out.bel).mono ?_; clear HPs; rintro e w2 ⟨rfl, hb⟩; have S := Lib.hid (S.out.below hb); clear m0 m1 m2 m3 m4 m5 m6 m7 m8 y0 y1 y2 y3; obtain ⟨m0, m1, m2, m3, m4, m5, m6, m7, m8⟩ := miV_cells S.out.mi; obtain ⟨y0, y1, y2, y3⟩ := mfV_cells S.out.mf))
        | (go_at_call 59; refine (HOn.out _ S.out.bel).mono ?_; rintro e w3 ⟨rfl, hb⟩; have S := Lib.hid (S.out.below hb); clear m0 m1 m2 m3 m4 m5 m6 m7 m8 y0 y1 y2 y3; obtain ⟨m0, m1, m2, m3, m4, m5, m6, m7, m8⟩ := miV_cells S.out.mi; obtain ⟨y0, y1, y2, y3⟩ := mfV_cells S.out.mf)
        | (go_at_call 60; refine (HTo.out _ S.out.bel S.out.mf).mono ?_; rintro e w4 ⟨rfl, hb⟩; have S := Lib.hid (S.out.below hb); clear m0 m1 m2 m3 m4 m5 m6 m7 m8 y0 y1 y2 y3; obtain ⟨m0, m1, m2, m3, m4, m5, m6, m7, m8⟩ := miV_cells S.out.mi; obtain ⟨y0, y1, y2, y3⟩ := mfV_cells S.out.mf))
      go_ret
      exact ⟨by rw [← hR]; simp, S.out.bel⟩
    rcases a3 with _ | _
    · skip
      go_wp2_with (first
        | (go_at_call 58; first | (refine (HPd.out _ S.out.bel).mono ?_; clear HPd; rintro e w2 ⟨rfl, hb⟩; have S := Lib.hid (S.out.below hb); clear m0 m1 m2 m3 m4 m5 m6 m7 m8 y0 y1 y2 y3; obtain ⟨m0, m1, m2, m3, m4, m5, m6, m7, m8⟩ := miV_cells S.out.mi; obtain ⟨y0, y1, y2, y3⟩ := mfV_cells S.out.mf) | (refine (HPs.out _ S.out.bel).mono ?_; clear HPs; rintro e w2 ⟨rfl, hb⟩; have S := Lib.hid (S.out.below hb); clear m0 m1 m2 m3 m4 m5 m6 m7 m8 y0 y1 y2 y3; obtain ⟨m0, m1, m2, m3, m4, m5, m6, m7, m8⟩ := miV_cells S.out.mi; obtain ⟨y0, y1, y2, y3⟩ := mfV_cells S.out.mf))
        | (go_at_call 59; refine (HOn.out _ S.out.bel).mono ?_; rintro e w3 ⟨rfl, hb⟩; have S := Lib.hid (S.out.below hb); clear m0 m1 m2 m3 m4 m5 m6 m7 m8 y0 y1 y2 y3; obtain ⟨m0, m1, m2, m3, m4, m5, m6, m7, m8⟩ := miV_cells S.out.mi; obtain ⟨y0, y1, y2, y3⟩ := mfV_cells S.out.mf)
        | (go_at_call 60; refine (HTo.out _ S.out.bel S.out.mf).mono ?_; rintro e w4 ⟨rfl, hb⟩; have S := Lib.hid (S.out.below hb); clear m0 m1 m2 m3 m4 m5 m6 m7 m8 y0 y1 y2 y3; obtain ⟨m0, m1, m2, m3, m4, m5, m6, m7, m8⟩ := miV_cells S.out.mi; obtain ⟨y0, y1, y2, y3⟩ := mfV_cells S.out.mf))
      go_ret
      exact ⟨by rw [← hR]; simp, S.out.bel⟩
    go_wp2_with (first
      | (go_at_call 58; first | (refine (HPd.out _ S.out.bel).mono ?_; clear HPd; rintro e w2 ⟨rfl, hb⟩; have S := Lib.hid (S.out.below hb); clear m0 m1 m2 m3 m4 m5 m6 m7 m8 y0 y1 y2 y3; obtain ⟨m0, m1, m2, m3, m4, m5, m6, m7, m8⟩ := miV_cells S.out.mi; obtain ⟨y0, y1, y2, y3⟩ := mfV_cells S.out.mf) | (refine (HPs.out _ S.out.bel).mono ?_; clear HPs; rintro e w2 ⟨rfl, hb⟩; have S := Lib.hid (S.out.below hb); clear m0 m1 m2 m3 m4 m5 m6 m7 m8 y0 y1 y2 y3; obtain ⟨m0, m1, m2, m3, m4, m5, m6, m7, m8⟩ := miV_cells S.out.mi; obtain ⟨y0, y1, y2, y3⟩ := mfV_cells S.out.mf))
      | (go_at_call 59; refine (HOn.out _ S.out.bel).mono ?_; rintro e w3 ⟨rfl, hb⟩; have S := Lib.hid (S.out.below hb); clear m0 m1 m2 m3 m4 m5 m6 m7 m8 y0 y1 y2 y3; obtain ⟨m0, m1, m2, m3, m4, m5, m6, m7, m8⟩ := miV_cells S.out.mi; obtain ⟨y0, y1, y2, y3⟩ := mfV_cells S.out.mf)
      | (go_at_call 60; refine (HTo.out _ S.out.bel S.out.mf).mono ?_; rintro e w4 ⟨rfl, hb⟩; have S := Lib.hid (S.out.below hb); clear m0 m1 m2 m3 m4 m5 m6 m7 m8 y0 y1 y2 y3; obtain ⟨m0, m1, m2, m3, m4, m5, m6, m7, m8⟩ := miV_cells S.out.mi; obtain ⟨y0, y1, y2, y3⟩ := mfV_cells S.out.mf))
    go_ret
    exact ⟨by rw [← hR]; simp, S.out.bel⟩
  · have p4 : ¬ (wt : Int) < (x.tos.length : Int) := of_decide_eq_false k4
    rcases a1 with _ | _
    · skip
      go_wp2_with (first
        | (go_at_call 58; first | (refine (HPd.out _ S.out.bel).mono ?_; clear HPd; rintro e w2 ⟨rfl, hb⟩; have S := Lib.hid (S.out.below hb); clear m0 m1 m2 m3 m4 m5 m6 m7 m8 y0 y1 y2 y3; obtain ⟨m0, m1, m2, m3, m4, m5, m6, m7, m8⟩ := miV_cells S.out.mi; obtain ⟨y0, y1, y2, y3⟩ := mfV_cells S.out.mf) | (refine (HPs.out _ S.out.bel).mono ?_; clear HPs; rintro e w2 ⟨rfl, hb⟩; have S := Lib.hid (S.out.below hb); clear m0 m1 m2 m3 m4 m5 m6 m7 m8 y0 y1 y2 y3; obtain ⟨m0, m1, m2, m3, m4, m5, m6, m7, m8⟩ := miV_cells S.out.mi; obtain ⟨y0, y1, y2, y3⟩ := mfV_cells S.out.mf))
        | (go_at_call 59; refine (HOn.out _ S.out.bel).mono ?_; rintro e w3 ⟨rfl, hb⟩; have S := Lib.hid (S.out.below hb); clear m0 m1 m2 m3 m4 m5 m6 m7 m8 y0 y1 y2 y3; obtain ⟨m0, m1, m2, m3, m4, m5, m6, m7, m8⟩ := miV_cells S.out.mi; obtain ⟨y0, y1, y2, y3⟩ := mfV_cells S.out.mf)
        | (go_at_call 60; refine (HTo.out _ S.out.bel S.out.mf).mono ?_; rintro e w4 ⟨rfl, hb⟩; have S := Lib.hid (S.out.below hb); clear m0 m1 m2 m3 m4 m5 m6 m7 m8 y0 y1 y2 y3; obtain ⟨m0, m1, m2, m3, m4, m5, m6, m7, m8⟩ := miV_cells S.out.mi; obtain ⟨y0, y1, y2, y3⟩ := mfV_cells S.out.mf))
      go_ret
      exact ⟨by rw [← hR]; simp, S.out.bel⟩
    rcases a2 with _ | _
    · skip
      go_wp2_with (first
        | (go_at_call 58; first | (refine (HPd.out _ S.out.bel).mono ?_; clear HPd; rintro e w2 ⟨rfl, hb⟩; have S := Lib.hid (S.out.below hb); clear m0 m1 m2 m3 m4 m5 m6 m7 m8 y0 y1 y2 y3; obtain ⟨m0, m1, m2, m3, m4, m5, m6, m7, m8⟩ := miV_cells S.out.mi; obtain ⟨y0, y1, y2, y3⟩ := mfV_cells S.out.mf) | (refine (HPs.out _ S.out.bel).mono ?_; clear HPs; rintro e w2 ⟨rfl, hb⟩; have S := Lib.hid (S.out.below hb); clear m0 m1 m2 m3 m4 m5 m6 m7 m8 y0 y1 y2 y3; obtain ⟨m0, m1, m2, m3, m4, m5, m6, m7, m8⟩ := miV_cells S.out.mi; obtain ⟨y0, y1, y2, y3⟩ := mfV_cells S.out.mf))
        | (go_at_call 59; refine (HOn.out _ S.out.bel).mono ?_; rintro e w3 ⟨rfl, hb⟩; have S := Lib.hid (S.out.below hb); clear m0 m1 m2 m3 m4 m5 m6 m7 m8 y0 y1 y2 y3; obtain ⟨m0, m1, m2, m3, m4, m5, m6, m7, m8⟩ := miV_cells S.out.mi; obtain ⟨y0, y1, y2, y3⟩ := mfV_cells S.out.mf)
        | (go_at_call 60; refine (HTo.out _ S.out.bel S.out.mf).mono ?_; rintro e w4 ⟨rfl, hb⟩; have S := Lib.hid (S.out.below hb); clear m0 m1 m2 m3 m4 m5 m6 m7 m8 y0 y1 y2 y3; obtain ⟨m0, m1, m2, m3, m4, m5, m6, m7, m8⟩ := miV_cells S.out.mi; obtain ⟨y0, y1, y2, y3⟩ := mfV_cells S.out.mf))
      go_ret
      exact ⟨by rw [← hR]; simp, S.out.bel⟩
    rcases a3 with _ | _
    · skip
      go_wp2_with (first
        | (go_at_call 58; first | (refine (HPd.out _ S.out.bel).mono ?_; clear HPd; rintro e w2 ⟨rfl, hb⟩; have S := Lib.hid (S.out.below hb); clear m0 m1 m2 m3 m4 m5 m6 m7 m8 y0 y1 y2 y3; obtain ⟨m0, m1, m2, m3, m4, m5, m6, m7, m8⟩ := miV_cells S.out.mi; obtain ⟨y0, y1, y2, y3⟩ := mfV_cells S.out.mf) | (refine (HPs.out _ S.out.bel).mono ?_; clear HPs; rintro e w2 ⟨rfl, hb⟩; have S := Lib.hid (S.out.below hb); clear m0 m1 m2 m3 m4 m5 m6 m7 m8 y0 y1 y2 y3; obtain ⟨m0, m1, m2, m3, m4, m5, m6, m7, m8⟩ := miV_cells S.out.mi; obtain ⟨y0, y1, y2, y3⟩ := mfV_cells S.out.mf))
        | (go_at_call 59; refine (HOn.out _ S.out.bel).mono ?_; rintro e w3 ⟨rfl, hb⟩; have S := Lib.hid (S.out.below hb); clear m0 m1 m2 m3 m4 m5 m6 m7 m8 y0 y1 y2 y3; obtain ⟨m0, m1, m2, m3, m4, m5, m6, m7, m8⟩ := miV_cells S.out.mi; obtain ⟨y0, y1, y2, y3⟩ := mfV_cells S.out.mf)
        | (go_at_call 60; refine (HTo.out _ S.out.bel S.out.mf).mono ?_; rintro e w4 ⟨rfl, hb⟩; have S := Lib.hid (S.out.below hb); clear m0 m1 m2 m3 m4 m5 m6 m7 m8 y0 y1 y2 y3; obtain ⟨m0, m1, m2, m3, m4, m5, m6, m7, m8⟩ := miV_cells S.out.mi; obtain ⟨y0, y1, y2, y3⟩ := mfV_cells S.out.mf))
      go_ret
      exact ⟨by rw [← hR]; simp, S.out.bel⟩
    go_wp2_with (first
      | (go_at_call 58; first | (refine (HPd.out _ S.out.bel).mono ?_; clear HPd; rintro e w2 ⟨rfl, hb⟩; have S := Lib.hid (S.out.below hb); clear m0 m1 m2 m3 m4 m5 m6 m7 m8 y0 y1 y2 y3; obtain ⟨m0, m1, m2, m3, m4, m5, m6, m7, m8⟩ := miV_cells S.out.mi; obtain ⟨y0, y1, y2, y3⟩ := mfV_cells S.out.mf) | (refine (HPs.out _ S.out.bel).mono ?_; clear HPs; rintro e w2 ⟨rfl, hb⟩; have S := Lib.hid (S.out.below hb); clear m0 m1 m2 m3 m4 m5 m6 m7 m8 y0 y1 y2 y3; obtain ⟨m0, m1, m2, m3, m4, m5, m6, m7, m8⟩ := miV_cells S.out.mi; obtain ⟨y0, y1, y2, y3⟩ := mfV_cells S.out.mf))
      | (go_at_call 59; refine (HOn.out _ S.out.bel).mono ?_; rintro e w3 ⟨rfl, hb⟩; have S := Lib.hid (S.out.below hb); clear m0 m1 m2 m3 m4 m5 m6 m7 m8 y0 y1 y2 y3; obtain ⟨m0, m1, m2, m3, m4, m5, m6, m7, m8⟩ := miV_cells S.out.mi; obtain ⟨y0, y1, y2, y3⟩ := mfV_cells S.out.mf)
      | (go_at_call 60; refine (HTo.out _ S.out.bel S.out.mf).mono ?_; rintro e w4 ⟨rfl, hb⟩; have S := Lib.hid (S.out.below hb); clear m0 m1 m2 m3 m4 m5 m6 m7 m8 y0 y1 y2 y3; obtain ⟨m0, m1, m2, m3, m4, m5, m6, m7, m8⟩ := miV_cells S.out.mi; obtain ⟨y0, y1, y2, y3⟩ := mfV_cells S.out.mf))
    go_ret
    exact ⟨by rw [← hR]; simp, S.out.bel⟩
end Go.Proofs.YtadnfekogmjieaaGreatDoor
set_option linter.unusedVariables false
set_option linter.unusedSimpArgs false
namespace Go.Proofs.YtadnfekogmjieaaGreatDoor
open Go.RowKit
open Mc (Pl Mi Mf Th Wt Im Md)
set_option maxHeartbeats 16000000 in
set_option maxRecDepth 100000 in
/-- mach.Check. -/
theorem mcheck_low (m : Md) (hm : m.Few) (x : MX) (ho : x.One) (f : Mf) (P : Option Addr) (p1 : Nat) (R0 : Option Addr) (p2 : Nat) (C : Option Addr) (p3 : Nat) (regs : Int) (hlow : ∀ x ∈ f.code, x.kind = 0 ∨ x.kind = 1 ∨ x.kind = 22) (hps : f.ps.length ≤ 1000) (hrs : f.rs.length ≤ 1000) (hcl : f.code.length ≤ 100000) (hli : ∀ y ∈ f.code, y.d.length ≤ 1000000 ∧ y.s.length ≤ 1000000 ∧ y.tos.length ≤ 1000000) (S0 S1 : Nat → Prop) (w : World) (G : GlobM w) (hmd : MdRd S0 w m x) (hf : MfAt S1 w f P R0 C) :
    Calls Tryz.prog 12 #[.agg (mdA m x), .agg (mfV f P p1 R0 p2 C p3), .int .i64 regs] w fun e w' => e = .returned (.tuple #[.int .i64 (Mc.check (Mc.thOf m) f regs).1, .int .i64 (Mc.check (Mc.thOf m) f regs).2]) ∧ Below w.heap.size w w' := by
  obtain ⟨Z, hZ⟩ : ∃ Z, Mc.check (Mc.thOf m) f regs = Z := ⟨_, rfl⟩
  rw [hZ]
  have HC0 := Lib.hid (C12.new w (mdA m x) (mfV f P p1 R0 p2 C p3))
  have HR := Lib.hid (fun W (hb : Below w.heap.size w W) => right_any P R0 p1 p2 f.ps f.rs W (RdZ.on hf.ps hb).rds.rdI (RdZ.on hf.rs hb).rds.rdI hps hrs)
  have HRd := Lib.hid (fun W (hb : Below w.heap.size w W) => mread_any m hm x ho S0 W (hmd.on hb))
  have htf := Mc.thOf_few hm
  have HRi := Lib.hid (fun (hsl : 0 ≤ f.slots ∧ f.slots ≤ 1000000) (hr : 0 ≤ regs ∧ regs ≤ 1000000) (X : TX) (i : Nat) (hi : i < f.code.length) D c1 (hc : f.code[i].d.length ≤ c1) E c2 T c3 (S : Nat → Prop) W (hb : Below w.heap.size w W) (h : ThRd S W (Mc.thOf m) X) (hm : MiRd S1 W f.code[i] D E T) => mright_low (Mc.thOf m) htf X f.code[i] (hlow _ (List.getElem_mem hi)) (hli _ (List.getElem_mem hi)).1 (hli _ (List.getElem_mem hi)).2.1 (hli _ (List.getElem_mem hi)).2.2 D c1 hc E c2 T c3 f P p1 R0 p2 C p3 regs hsl hr (by omega) S S1 W (G.below hb) h hm)
  have HOn := Lib.hid (fun (y : Mi) D c1 E c2 T c3 W => on_any y D c1 E c2 T c3 W)
  have HF := Lib.hid hf
  have hmo : ∀ {l : Nat}, True := fun {_} => trivial
  clear hmo G hmd hf htf hli hlow
  rcases hw : Mc.within regs 16 with _ | _
  · have hz : Z = (0, 31) := by rw [← hZ]; exact Mc.check_over _ _ hw
    subst hz
    clear HR HRd HRi HOn HF hZ
    go_enter Tryz.func12, Tryz.ntmps12
    go_wp2_with (go_at_call 24; refine (within_any _ _ _).mono ?_; rintro e w1 ⟨rfl, rfl⟩)
    go_ret2
    exact ⟨rfl, HC0.out.bel⟩
  have hreg : 0 ≤ regs ∧ regs ≤ 1000000 := by
    unfold Mc.within at hw
    simp only [Bool.and_eq_true, decide_eq_true_eq] at hw
    omega
  obtain ⟨rt, hrt⟩ : ∃ q, (Ty.right f.ps && Ty.right f.rs) = q := ⟨_, rfl⟩
  rw [hrt] at HR
  rcases rt with _ | _
  · have hz : Z = (0, 30) := by rw [← hZ]; exact Mc.check_no hw (.inl hrt)
    subst hz
    clear HRd HRi HOn HF hZ hrt
    go_enter Tryz.func12, Tryz.ntmps12
    go_upto_region 3 with (go_at_call 24; refine (within_any _ _ _).mono ?_; rintro e w1 ⟨rfl, rfl⟩)
    obtain ⟨y0, y1, y2, y3⟩ := mfV_cells HC0.out.mf
    go_wp2_with (go_at_call 25; refine (HR.out _ HC0.out.bel).mono ?_; rintro e w2 ⟨rfl, hb⟩; have S2 := Lib.hid (HC0.out.below hb); obtain ⟨y0, y1, y2, y3⟩ := mfV_cells S2.out.mf; clear hb)
    go_ret2
    exact ⟨rfl, S2.out.bel⟩
  by_cases h1 : f.slots < (f.ps.length : Int)
  · have hz : Z = (0, 30) := by rw [← hZ]; exact Mc.check_no hw (.inr (.inl h1))
    subst hz
    clear HRd HRi HOn HF hZ hrt
    go_enter Tryz.func12, Tryz.ntmps12
    go_upto_region 3 with (go_at_call 24; refine (within_any _ _ _).mono ?_; rintro e w1 ⟨rfl, rfl⟩)
    obtain ⟨y0, y1, y2, y3⟩ := mfV_cells HC0.out.mf
    go_wp2_with (go_at_call 25; refine (HR.out _ HC0.out.bel).mono ?_; rintro e w2 ⟨rfl, hb⟩; have S2 := Lib.hid (HC0.out.below hb); obtain ⟨y0, y1, y2, y3⟩ := mfV_cells S2.out.mf; clear hb)
    go_ret2
    exact ⟨rfl, S2.out.bel⟩
  by_cases h2 : (65536 : Int) < f.slots
  · have hz : Z = (0, 30) := by rw [← hZ]; exact Mc.check_no hw (.inr (.inr (.inl h2)))
    subst hz
    clear HRd HRi HOn HF hZ hrt
    go_enter Tryz.func12, Tryz.ntmps12
    go_upto_region 3 with (go_at_call 24; refine (within_any _ _ _).mono ?_; rintro e w1 ⟨rfl, rfl⟩)
    obtain ⟨y0, y1, y2, y3⟩ := mfV_cells HC0.out.mf
    go_wp2_with (go_at_call 25; refine (HR.out _ HC0.out.bel).mono ?_; rintro e w2 ⟨rfl, hb⟩; have S2 := Lib.hid (HC0.out.below hb); obtain ⟨y0, y1, y2, y3⟩ := mfV_cells S2.out.mf; clear hb)
    go_ret2
    exact ⟨rfl, S2.out.bel⟩
  rcases hk : f.code.length with _ | k
  · have hz : Z = (0, 30) := by rw [← hZ]; exact Mc.check_no hw (.inr (.inr (.inr (List.eq_nil_of_length_eq_zero hk))))
    subst hz
    clear HRd HRi HOn HF hZ hrt
    go_enter Tryz.func12, Tryz.ntmps12
    go_upto_region 3 with (go_at_call 24; refine (within_any _ _ _).mono ?_; rintro e w1 ⟨rfl, rfl⟩)
    obtain ⟨y0, y1, y2, y3⟩ := mfV_cells HC0.out.mf
    go_wp2_with (go_at_call 25; refine (HR.out _ HC0.out.bel).mono ?_; rintro e w2 ⟨rfl, hb⟩; have S2 := Lib.hid (HC0.out.below hb); obtain ⟨y0, y1, y2, y3⟩ := mfV_cells S2.out.mf; clear hb)
    go_ret2
    exact ⟨rfl, S2.out.bel⟩
  have hne : f.code ≠ [] := by intro e; rw [e] at hk; cases hk
  rw [Mc.check_yes hw (Mc.mfOk_iff.2 ⟨⟨by simpa using hrt, by omega, by omega⟩, hne⟩)] at hZ
  have hsl : 0 ≤ f.slots ∧ f.slots ≤ 1000000 := by omega
  have HRJ := Lib.hid (HRi.out hsl hreg)
  have HK := Lib.hid hk
  have q0 : ((f.code.length : Int) == 0) = false := by rw [hk]; simp; omega
  have q1 : ¬ ((f.code.length : Int) = 0) := by rw [hk]; omega
  have HZ := Lib.hid hZ
  have HE : Hid (∀ h : k < f.code.length, Mc.checkEnd f = if Mc.goesK (f.code[k]'h).kind then ((k : Int), 30) else (0, 0)) := Lib.hid (fun h => Mc.checkEnd_at hk)
  clear hZ hk hne hrt HRi
  go_enter Tryz.func12, Tryz.ntmps12
  go_upto_region 3 with (go_at_call 24; refine (within_any _ _ _).mono ?_; rintro e w1 ⟨rfl, rfl⟩)
  obtain ⟨y0, y1, y2, y3⟩ := mfV_cells HC0.out.mf
  go_upto_region 5 with (go_at_call 25; refine (HR.out _ HC0.out.bel).mono ?_; rintro e w2 ⟨rfl, hb⟩; have S2 := Lib.hid (HC0.out.below hb); obtain ⟨y0, y1, y2, y3⟩ := mfV_cells S2.out.mf; clear hb)
  clear y0 y1 y2 y3 HR
  refine at_code (F := fun W => Hid (C12 w W (mdA m x) (mfV f P p1 R0 p2 C p3))) S2 ?_
  clear S2 HC0
  intro W3 S3
  obtain ⟨⟨g0, g1, g2, g3, g4, g5⟩, g6, g7, g8, g9, g10, g11⟩ := mdA_cells S3.out.md
  obtain ⟨⟨A6, n6, c6, e6⟩, ⟨b7, e7⟩, ⟨z8, e8⟩, A11, n11, c11, e11⟩ := ho
  rw [e6] at g6
  rw [e7] at g7
  rw [e8] at g8
  rw [e11] at g11
  have HRD := Lib.hid (HRd.out _ S3.out.bel)
  unfold mdA at HRD
  rw [e6, e7, e8, e11] at HRD
  clear HRd
  go_upto_region 6 with (go_at_call 26; refine (HRD.out).mono ?_; clear HRD g0 g1 g2 g3 g4 g5 g6 g7 g8 g9 g10 g11; rintro e w3 ⟨⟨F, fc, B, bc, Gg, gc, rfl, hth⟩, hb⟩; have S4 := Lib.hid (S3.out.below hb); have HTH := Lib.hid hth; clear hth hb; simp only [thA, txOf, e6, e7, e8, e11])
  refine at_code (F := fun W => Hid (C13 w W W3.heap.size w3.heap.size (mfV f P p1 R0 p2 C p3) S0 (Mc.thOf m) (txOf m x F fc B bc Gg gc))) (Lib.hid ⟨S4.out.bel.alloc S4.out.bel.size _, S4.out.mf.alloc _, by (unfold thA txOf; dsimp only; rw [e6, e7, e8, e11]; exact Var.new _ _ _), HTH.out.on ((Below.refl _ _).alloc (Nat.le_refl _) _)⟩) ?_
  clear S4 HTH S3
  obtain ⟨K, hK⟩ : ∃ K, w3.heap.size = K := ⟨_, rfl⟩
  obtain ⟨N, hN⟩ : ∃ N, W3.heap.size = N := ⟨_, rfl⟩
  obtain ⟨t, ht⟩ : ∃ t, Mc.thOf m = t := ⟨_, rfl⟩
  obtain ⟨X, hX⟩ : ∃ X, txOf m x F fc B bc Gg gc = X := ⟨_, rfl⟩
  simp only [hK, hN, ht, hX] at HRJ HZ ⊢
  clear hK hN ht hX
  intro W S
  obtain ⟨y0, y1, y2, y3⟩ := mfV_cells S.out.mf
  go_wp2_with fail
  go_loopw [46] (fun iv wr => ∃ i : Nat, iv = .int .i64 (i : Int) ∧ i ≤ f.code.length ∧ Hid (Mc.checkGo t f regs i = Z) ∧ Hid (C13 w wr N K (mfV f P p1 R0 p2 C p3) S0 t X)) (fun iv _ => f.code.length - (intOf iv).toNat)
  case atStart => exact ⟨0, rfl, by omega, HZ, S⟩
  case round =>
    clear S HZ y0 y1 y2 y3
    obtain ⟨i, rfl, hi, HZ, S⟩ := hrel
    by_cases hia : i < f.code.length
    · have x0 : (i : Int) < (f.code.length : Int) := by omega
      have x1 : (0 : Int) ≤ (i : Int) := by omega
      obtain ⟨g, o, rfl, -, hgl, hat⟩ := (RdM.on HF.out.code S.out.bel).get hia
      obtain ⟨D, c1, E, c2, T, c3, ⟨f0, f1, f2, f3, f4, f5, f6, f7, f8⟩, hrd, hcp⟩ := hat.cellsC
      have HRX := Lib.hid (HRJ.out X i hia D c1 hcp E c2 T c3 (fun g => S0 g ∨ N ≤ g))
      have HMI := Lib.hid hrd
      have HB1 := Lib.hid (fun h => Mc.checkGo_bad (t := t) (f := f) (r := regs) hia h)
      have HB2 := Lib.hid (fun h => Mc.checkGo_next (t := t) (f := f) (r := regs) hia h)
      obtain ⟨y, hy⟩ : ∃ y, f.code[i] = y := ⟨_, rfl⟩
      simp only [hy] at f0 f1 f2 f3 f4 f5 f6 f7 f8 HRX HMI HB1 HB2
      clear hy hat hrd hcp
      go_upto_region 9 with fail
      refine at_code (F := fun W => Hid (C13 w W N K (mfV f P p1 R0 p2 (some ⟨g, o, none⟩) p3) S0 t X) ∧ Hid (Var W wr.heap.size (miV y D c1 E c2 T c3) 61) ∧ Hid (MiRd S1 W y D E T)) ⟨Lib.hid (S.out.below ((Below.refl _ _).alloc (Nat.le_refl _) _)), Lib.hid (Var.new _ _ _), Lib.hid (HMI.out.on ((Below.refl _ _).alloc (Nat.le_refl _) _))⟩ ?_
      clear f0 f1 f2 f3 f4 f5 f6 f7 f8 S HMI
      obtain ⟨K5, hK5⟩ : ∃ K, wr.heap.size = K := ⟨_, rfl⟩
      simp only [hK5]
      clear hK5
      rintro W5 ⟨S5, HV5, HM5⟩
      obtain ⟨⟨g0, g1, g2, g3, g4, g5, g6, g7⟩, g8, g9, g10, g11, g12, g13, g14, g15⟩ := thA_cells S5.out.th
      obtain ⟨m0, m1, m2, m3, m4, m5, m6, m7, m8⟩ := miV_cells HV5.out
      obtain ⟨y0, y1, y2, y3⟩ := mfV_cells S5.out.mf
      have HRY := Lib.hid (HRX.out W5 S5.out.bel S5.out.rd HM5.out)
      clear HRX
      obtain ⟨r, hr⟩ : ∃ r, Mc.rightI t y f regs = r := ⟨_, rfl⟩
      rw [hr] at HRY HB1 HB2
      clear hr
      unfold thA miV mfV at HRY
      rcases r with _ | _
      · have HX := Lib.hid ((HB1.out rfl).symm.trans HZ.out)
        clear HB1 HB2 HZ
        go_wp2_with (go_at_call 27; refine (HRY.out).mono ?_; rintro e w6 ⟨rfl, hb⟩; have S6 := S5.out.below hb)
        go_ret2
        exact ⟨by rw [← HX.out]; rfl, S6.bel⟩
      · have HX := Lib.hid ((HB2.out rfl).symm.trans HZ.out)
        clear HB1 HB2 HZ
        go_wp2_with (go_at_call 27; refine (HRY.out).mono ?_; rintro e w6 ⟨rfl, hb⟩; have S6 := S5.out.below hb)
        go_roundw
        case rel => exact ⟨i + 1, by go_num, by omega, HX, Lib.hid S6⟩
        case measure => simp [intOf] <;> omega
    · obtain rfl : i = f.code.length := by omega
      have x2 : ¬ (f.code.length : Int) < (f.code.length : Int) := by omega
      have hz := HZ.out
      have hkk := HK.out
      have hia : k < f.code.length := by omega
      rw [Mc.checkGo_end, HE.out hia] at hz
      obtain ⟨g, o, hA, -, hgl, hat⟩ := (RdM.on HF.out.code S.out.bel).get hia
      subst hA
      obtain ⟨D, c1, E, c2, T, c3, ⟨f0, f1, f2, f3, f4, f5, f6, f7, f8⟩, hrd, hcp⟩ := hat.cellsC
      obtain ⟨y, hy⟩ : ∃ y, f.code[k] = y := ⟨_, rfl⟩
      simp only [hy] at f0 f1 f2 f3 f4 f5 f6 f7 f8 hz
      have hwk : IntKind.i64.wrap ((f.code.length : Int) - 1) = (k : Int) := by rw [IntKind.wrap_i64]; omega
      have x3 : (k : Int) < (f.code.length : Int) := by omega
      have x4 : (0 : Int) ≤ (k : Int) := by omega
      have HOY := Lib.hid (HOn.out y D c1 E c2 T c3)
      have HX := Lib.hid hz
      rw [Mc.on_goes] at HOY
      obtain ⟨gk, hgk⟩ : ∃ b, Mc.goesK y.kind = b := ⟨_, rfl⟩
      rw [hgk] at HOY HX
      unfold miV at HOY
      obtain ⟨y0, y1, y2, y3⟩ := mfV_cells S.out.mf
      clear hz hy hat hrd hcp hgk HZ HE HRJ HOn HF
      rcases gk with _ | _
      · skip
        go_wp2_with (go_at_call 28; refine (HOY.out _).mono ?_; rintro e w6 ⟨rfl, hb⟩; have S6 := S.out.below hb)
        go_ret2
        exact ⟨by rw [← HX.out]; rfl, S6.bel⟩
      · skip
        go_wp2_with (go_at_call 28; refine (HOY.out _).mono ?_; rintro e w6 ⟨rfl, hb⟩; have S6 := S.out.below hb)
        go_ret2
        exact ⟨by rw [← HX.out]; rfl, S6.bel⟩
end Go.Proofs.YtadnfekogmjieaaGreatDoor
