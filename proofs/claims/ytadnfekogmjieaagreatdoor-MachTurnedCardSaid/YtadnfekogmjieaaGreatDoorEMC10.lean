/-
  Layer 51, the program: right. (Printed by gen_mc10.py.)
-/
import Derived.Test.YtadnfekogmjieaaGreatDoorEMC8
import Derived.Test.YtadnfekogmjieaaGreatDoorEMC9
set_option linter.unusedVariables false
set_option linter.unusedSimpArgs false
namespace Go.Proofs.YtadnfekogmjieaaGreatDoor
open Go.RowKit
open Mc (Pl Mi Mf Th Wt)
/-- The boxed arguments of right. -/
structure B33 (w W : World) (tv mv fv : Array Value) : Prop where
  bel : Below w.heap.size w W
  th : Var W w.heap.size tv 97
  mi : Var W (w.heap.size + 1) mv 61
  mf : Var W (w.heap.size + 2) fv 39
theorem B33.new (w : World) (tv mv fv : Array Value) : B33 w (((w.alloc (.cells tv 97)).alloc (.cells mv 61)).alloc (.cells fv 39)) tv mv fv :=
  ⟨((((Below.refl w.heap.size w).alloc (Nat.le_refl _) _).alloc (by simp) _).alloc (by simp; omega) _), ((Var.new w _ _).alloc _).alloc _, by have h := (Var.new (w.alloc (.cells tv 97)) mv 61).alloc (.cells fv 39); simpa using h, by have h := Var.new ((w.alloc (.cells tv 97)).alloc (.cells mv 61)) fv 39; simpa using h⟩
theorem B33.below {w W W' : World} {tv mv fv : Array Value} (h : B33 w W tv mv fv) (hb : Below W.heap.size W W') : B33 w W' tv mv fv := ⟨h.bel.trans (hb.mono h.bel.size), var_keep h.th hb, var_keep h.mi hb, var_keep h.mf hb⟩
set_option maxHeartbeats 16000000 in
set_option maxRecDepth 100000 in
/-- (mach.things).right. -/
theorem mright_any (t : Th) (hf : t.Few) (X : TX) (x : Mi) (hd : x.d.length ≤ 1000000) (hs : x.s.length ≤ 1000000) (ht : x.tos.length ≤ 1000000) (D : Option Addr) (c1 : Nat) (hc : x.d.length ≤ c1) (E : Option Addr) (c2 : Nat) (T : Option Addr) (c3 : Nat) (f : Mf) (P : Option Addr) (p1 : Nat) (R0 : Option Addr) (p2 : Nat) (C : Option Addr) (p3 : Nat) (regs : Int) (hsl : 0 ≤ f.slots ∧ f.slots ≤ 1000000) (hr : 0 ≤ regs ∧ regs ≤ 1000000) (hcl : f.code.length ≤ 1000000) (S0 S1 : Nat → Prop) (w : World) (G : GlobM w) (h : ThRd S0 w t X) (hm : MiRd S1 w x D E T) :
    Calls Tryz.prog 27 #[.agg (thA t X), .agg (miV x D c1 E c2 T c3), .agg (mfV f P p1 R0 p2 C p3), .int .i64 regs] w fun e w' => e = .returned (.bool (Mc.rightI t x f regs)) ∧ Below w.heap.size w w' := by
  obtain ⟨R, hR⟩ : ∃ R, Mc.rightI t x f regs = R := ⟨_, rfl⟩
  rw [hR]
  unfold Mc.rightI Mc.fits at hR
  have hB0 := Lib.hid (B33.new w (thA t X) (miV x D c1 E c2 T c3) (mfV f P p1 R0 p2 C p3))
  have HSp := Lib.hid (fun W (hb : Below w.heap.size w W) => spare_any x D c1 E c2 T c3 W (G.r.below hb))
  have HWa := Lib.hid (fun hk W (hb : Below w.heap.size w W) => mwants_any t hf X x hk D c1 E c2 T c3 f P p1 R0 p2 C p3 S0 W (G.g.below hb) (h.on hb))
  have HPd := Lib.hid (fun W (hb : Below w.heap.size w W) => mplaces_any S1 D c1 x.d hd f P p1 R0 p2 C p3 regs hsl hr W (RdP.on hm.d hb))
  have HPs := Lib.hid (fun W (hb : Below w.heap.size w W) => mplaces_any S1 E c2 x.s hs f P p1 R0 p2 C p3 regs hsl hr W (RdP.on hm.s hb))
  have HOn := Lib.hid (fun W (hb : Below w.heap.size w W) => once_any S1 D c1 x.d hd hc W (RdP.on hm.d hb))
  have HTo := Lib.hid (fun W (hb : Below w.heap.size w W) V4 => anyBadT_any S1 T c3 x.tos ht f P p1 R0 p2 C p3 hcl (w.heap.size + 2) W V4 (RdZ.on hm.t hb))
  have hany : x.tos.all (Mc.toOk f.code.length) = !x.tos.any (fun p => !Mc.toOk f.code.length p) := by rw [List.not_any_eq_all_not]; simp
  rw [hany] at hR
  clear hany G h hm
  have hkr : Mc.spare x = true → ∃ k : Nat, x.kind = k ∧ k ≤ 23 := fun e => by
    unfold Mc.spare at e
    simp only [Bool.and_eq_true] at e
    exact within_nat e.1
  obtain ⟨sp, e1⟩ : ∃ q, Mc.spare x = q := ⟨_, rfl⟩
  obtain ⟨a1, e2⟩ : ∃ q, x.d.all (Mc.plOk f.slots regs) = q := ⟨_, rfl⟩
  obtain ⟨a2, e3⟩ : ∃ q, x.s.all (Mc.plOk f.slots regs) = q := ⟨_, rfl⟩
  obtain ⟨a3, e4⟩ : ∃ q, Mc.once x.d = q := ⟨_, rfl⟩
  obtain ⟨a4, e5⟩ : ∃ q, x.tos.any (fun p => !Mc.toOk f.code.length p) = q := ⟨_, rfl⟩
  rw [e1] at HSp hkr
  rw [e2] at HPd
  rw [e3] at HPs
  rw [e4] at HOn
  rw [e5] at HTo
  rw [e1, e2, e3, e4, e5] at hR
  obtain ⟨⟨wd, ws, wt, wm, wo⟩, e6⟩ : ∃ q, Mc.want t x f.rs.length = q := ⟨_, rfl⟩
  rw [e6] at HWa hR
  unfold wtV at HWa
  dsimp only at HWa hR
  obtain ⟨b1, l1⟩ : ∃ q, decide (x.d.length = wd) = q := ⟨_, rfl⟩
  obtain ⟨b2, l2⟩ : ∃ q, decide (x.s.length = ws) = q := ⟨_, rfl⟩
  obtain ⟨b3, l3⟩ : ∃ q, decide (wt ≤ x.tos.length) = q := ⟨_, rfl⟩
  obtain ⟨b4, l4⟩ : ∃ q, decide (x.tos.length ≤ wt) = q := ⟨_, rfl⟩
  have k1 : ((x.d.length : Int) != (wd : Int)) = !b1 := by rw [← l1, Bool.eq_iff_iff]; simp; omega
  have k2 : ((x.s.length : Int) != (ws : Int)) = !b2 := by rw [← l2, Bool.eq_iff_iff]; simp; omega
  have k3 : decide ((x.tos.length : Int) < (wt : Int)) = !b3 := by rw [← l3, Bool.eq_iff_iff]; simp
  have k4 : decide ((wt : Int) < (x.tos.length : Int)) = !b4 := by rw [← l4, Bool.eq_iff_iff]; simp
  rw [l1, l2, l3, l4] at hR
  clear e1 e2 e3 e4 e5 e6 l1 l2 l3 l4
  unfold thA miV mfV at HWa
  unfold miV at HSp
  unfold mfV at HPd HPs
  go_enter Tryz.func27, Tryz.ntmps27
  go_upto_region 1 with fail
  refine at_code (F := fun W => Hid (B33 w W (thA t X) (miV x D c1 E c2 T c3) (mfV f P p1 R0 p2 C p3))) (Lib.hid hB0.out) ?_
  clear hB0
  intro W S
  obtain ⟨⟨g0, g1, g2, g3, g4, g5, g6, g7⟩, g8, g9, g10, g11, g12, g13, g14, g15⟩ := thA_cells S.out.th
  obtain ⟨m0, m1, m2, m3, m4, m5, m6, m7, m8⟩ := miV_cells S.out.mi
  obtain ⟨y0, y1, y2, y3⟩ := mfV_cells S.out.mf
  rcases sp with _ | _
  · go_wp2_with (go_at_call 55; refine (HSp.out _ S.out.bel).mono ?_; rintro e w1 ⟨rfl, hb⟩; have BX := S.out.bel.trans (hb.mono S.out.bel.size))
    go_ret
    exact ⟨by rw [← hR]; rfl, BX⟩
  have hkx := hkr rfl
  rw [Bool.true_and] at hR
  go_upto_region 3 with (go_at_call 55; refine (HSp.out _ S.out.bel).mono ?_; rintro e w1 ⟨rfl, hb⟩; have S1' := S.out.below hb)
  refine at_code (F := fun W => Hid (B33 w W (thA t X) (miV x D c1 E c2 T c3) (mfV f P p1 R0 p2 C p3))) (Lib.hid S1') ?_
  clear S S1' hb HSp g0 g1 g2 g3 g4 g5 g6 g7 g8 g9 g10 g11 g12 g13 g14 g15 m0 m1 m2 m3 m4 m5 m6 m7 m8 y0 y1 y2 y3
  intro W S
  obtain ⟨⟨g0, g1, g2, g3, g4, g5, g6, g7⟩, g8, g9, g10, g11, g12, g13, g14, g15⟩ := thA_cells S.out.th
  obtain ⟨m0, m1, m2, m3, m4, m5, m6, m7, m8⟩ := miV_cells S.out.mi
  obtain ⟨y0, y1, y2, y3⟩ := mfV_cells S.out.mf
  go_upto_region 4 with (go_at_call 56; refine (HWa.out hkx _ S.out.bel).mono ?_; rintro e w1 ⟨rfl, hb⟩; have S1' := S.out.below hb)
  refine at_code (F := fun W => Hid (B33 w W (thA t X) (miV x D c1 E c2 T c3) (mfV f P p1 R0 p2 C p3)) ∧ Hid (Var W w1.heap.size #[.int .i64 (wd : Int), .int .i64 (ws : Int), .int .i64 (wt : Int), .bool wm, .bool wo] 130)) ⟨Lib.hid (S1'.below ((Below.refl _ _).alloc (Nat.le_refl _) _)), Lib.hid (Var.new _ _ _)⟩ ?_
  clear S S1' hb HWa g0 g1 g2 g3 g4 g5 g6 g7 g8 g9 g10 g11 g12 g13 g14 g15 m0 m1 m2 m3 m4 m5 m6 m7 m8 y0 y1 y2 y3
  obtain ⟨K4, hK4⟩ : ∃ K, w1.heap.size = K := ⟨_, rfl⟩
  simp only [hK4]
  clear hK4
  rintro W ⟨S, HV⟩
  obtain ⟨m0, m1, m2, m3, m4, m5, m6, m7, m8⟩ := miV_cells S.out.mi
  obtain ⟨y0, y1, y2, y3⟩ := mfV_cells S.out.mf
  obtain ⟨⟨v0, v1, v2, v3, v4⟩, -⟩ := cells5 HV.out
  rcases wo with _ | _
  · go_wp2_with fail
    go_ret
    exact ⟨by rw [← hR]; simp, S.out.bel⟩
  rcases b1 with _ | _
  · go_wp2_with fail
    go_ret
    exact ⟨by rw [← hR]; simp, S.out.bel⟩
  rcases b2 with _ | _
  · go_wp2_with fail
    go_ret
    exact ⟨by rw [← hR]; simp, S.out.bel⟩
  rcases b3 with _ | _
  · have p3 : (x.tos.length : Int) < (wt : Int) := of_decide_eq_true k3
    go_wp2_with fail
    go_ret
    exact ⟨by rw [← hR]; simp, S.out.bel⟩
  have p3 : ¬ (x.tos.length : Int) < (wt : Int) := of_decide_eq_false k3
  have hmo : b4 = true ∨ b4 = false := by cases b4 <;> simp
  clear hmo
  rcases b4 with _ | _
  · have p4 : (wt : Int) < (x.tos.length : Int) := of_decide_eq_true k4
    rcases wm with _ | _
    · go_wp2_with fail
      go_ret
      exact ⟨by rw [← hR]; simp, S.out.bel⟩
    rcases a1 with _ | _
    · skip
      go_wp2_with (first
        | (go_at_call 58; first | (refine (HPd.out _ S.out.bel).mono ?_; clear HPd; rintro e w2 ⟨rfl, hb⟩; have S := Lib.hid (S.out.below hb); clear m0 m1 m2 m3 m4 m5 m6 m7 m8 y0 y1 y2 y3; obtain ⟨m0, m1, m2, m3, m4, m5, m6, m7, m8⟩ := miV_cells S.out.mi; obtain ⟨y0, y1, y2, y3⟩ := mfV_cells S.out.mf) | (refine (HPs.out _ S.out.bel).mono ?_; clear HPs; rintro e w2 ⟨rfl, hb⟩; have S := Lib.hid (S.out.below hb); clear m0 m1 m2 m3 m4 m5 m6 m7 m8 y0 y1 y2 y3; obtain ⟨m0, m1, m2, m3, m4, m5, m6, m7, m8⟩ := miV_cells S.out.mi; obtain ⟨y0, y1, y2, y3⟩ := mfV_cells S.out.mf))
        | (go_at_call 59; refine (HOn.out _ S.out.bel).mono ?_; rintro e w3 ⟨rfl, hb⟩; have S := Lib.hid (S.out.below hb); clear m0 m1 m2 m3 m4 m5 m6 m7 m8 y0 y1 y2 y3; obtain ⟨m0, m1, m2, m3, m4, m5, m6, m7, m8⟩ := miV_cells S.out.mi; obtain ⟨y0, y1, y2, y3⟩ := mfV_cells S.out.mf)
        | (go_at_call 60; refine (HTo.out _ S.out.bel S.out.mf).mono ?_; rintro e w4 ⟨rfl, hb⟩; have S := Lib.hid (S.out.below hb); clear m0 m1 m2 m3 m4 m5 m6 m7 m8 y0 y1 y2 y3; obtain ⟨m0, m1, m2, m3, m4, m5, m6, m7, m8⟩ := miV_cells S.out.mi; obtain ⟨y0, y1, y2, y3⟩ := mfV_cells S.out.mf))
      go_ret
      exact ⟨by rw [← hR]; simp, S.out.bel⟩
    rcases a2 with _ | _
    · skip
      go_wp2_with (first
        | (go_at_call 58; first | (refine (HPd.out _ S.out.bel).mono ?_; clear HPd; rintro e w2 ⟨rfl, hb⟩; have S := Lib.hid (S.out.below hb); clear m0 m1 m2 m3 m4 m5 m6 m7 m8 y0 y1 y2 y3; obtain ⟨m0, m1, m2, m3, m4, m5, m6, m7, m8⟩ := miV_cells S.out.mi; obtain ⟨y0, y1, y2, y3⟩ := mfV_cells S.out.mf) | (refine (HPs.out _ S.out.bel).mono ?_; clear HPs; rintro e w2 ⟨rfl, hb⟩; have S := Lib.hid (S.out.below hb); clear m0 m1 m2 m3 m4 m5 m6 m7 m8 y0 y1 y2 y3; obtain ⟨m0, m1, m2, m3, m4, m5, m6, m7, m8⟩ := miV_cells S.out.mi; obtain ⟨y0, y1, y2, y3⟩ := mfV_cells S.out.mf))
        | (go_at_call 59; refine (HOn.out _ S.out.bel).mono ?_; rintro e w3 ⟨rfl, hb⟩; have S := Lib.hid (S.out.below hb); clear m0 m1 m2 m3 m4 m5 m6 m7 m8 y0 y1 y2 y3; obtain ⟨m0, m1, m2, m3, m4, m5, m6, m7, m8⟩ := miV_cells S.out.mi; obtain ⟨y0, y1, y2, y3⟩ := mfV_cells S.out.mf)
        | (go_at_call 60; refine (HTo.out _ S.out.bel S.out.mf).mono ?_; rintro e w4 ⟨rfl, hb⟩; have S := Lib.hid (S.out.below hb); clear m0 m1 m2 m3 m4 m5 m6 m7 m8 y0 y1 y2 y3; obtain ⟨m0, m1, m2, m3, m4, m5, m6, m7, m8⟩ := miV_cells S.out.mi; obtain ⟨y0, y1, y2, y3⟩ := mfV_cells S.out.mf))
      go_ret
      exact ⟨by rw [← hR]; simp, S.out.bel⟩
    rcases a3 with _ | _
    · skip
      go_wp2_with (first
        | (go_at_call 58; first | (refine (HPd.out _ S.out.bel).mono ?_; clear HPd; rintro e w2 ⟨rfl, hb⟩; have S := Lib.hid (S.out.below hb); clear m0 m1 m2 m3 m4 m5 m6 m7 m8 y0 y1 y2 y3; obtain ⟨m0, m1, m2, m3, m4, m5, m6, m7, m8⟩ := miV_cells S.out.mi; obtain ⟨y0, y1, y2, y3⟩ := mfV_cells S.out.mf) | (refine (HPs.out _ S.out.bel).mono ?_; clear HPs; rintro e w2 ⟨rfl, hb⟩; have S := Lib.hid (S.out.below hb); clear m0 m1 m2 m3 m4 m5 m6 m7 m8 y0 y1 y2 y3; obtain ⟨m0, m1, m2, m3, m4, m5, m6, m7, m8⟩ := miV_cells S.out.mi; obtain ⟨y0, y1, y2, y3⟩ := mfV_cells S.out.mf))
        | (go_at_call 59; refine (HOn.out _ S.out.bel).mono ?_; rintro e w3 ⟨rfl, hb⟩; have S := Lib.hid (S.out.below hb); clear m0 m1 m2 m3 m4 m5 m6 m7 m8 y0 y1 y2 y3; obtain ⟨m0, m1, m2, m3, m4, m5, m6, m7, m8⟩ := miV_cells S.out.mi; obtain ⟨y0, y1, y2, y3⟩ := mfV_cells S.out.mf)
        | (go_at_call 60; refine (HTo.out _ S.out.bel S.out.mf).mono ?_; rintro e w4 ⟨rfl, hb⟩; have S := Lib.hid (S.out.below hb); clear m0 m1 m2 m3 m4 m5 m6 m7 m8 y0 y1 y2 y3; obtain ⟨m0, m1, m2, m3, m4, m5, m6, m7, m8⟩ := miV_cells S.out.mi; obtain ⟨y0, y1, y2, y3⟩ := mfV_cells S.out.mf))
      go_ret
      exact ⟨by rw [← hR]; simp, S.out.bel⟩
    go_wp2_with (first
      | (go_at_call 58; first | (refine (HPd.out _ S.out.bel).mono ?_; clear HPd; rintro e w2 ⟨rfl, hb⟩; have S := Lib.hid (S.out.below hb); clear m0 m1 m2 m3 m4 m5 m6 m7 m8 y0 y1 y2 y3; obtain ⟨m0, m1, m2, m3, m4, m5, m6, m7, m8⟩ := miV_cells S.out.mi; obtain ⟨y0, y1, y2, y3⟩ := mfV_cells S.out.mf) | (refine (HPs.out _ S.out.bel).mono ?_; clear HPs; rintro e w2 ⟨rfl, hb⟩; have S := Lib.hid (S.out.below hb); clear m0 m1 m2 m3 m4 m5 m6 m7 m8 y0 y1 y2 y3; obtain ⟨m0, m1, m2, m3, m4, m5, m6, m7, m8⟩ := miV_cells S.out.mi; obtain ⟨y0, y1, y2, y3⟩ := mfV_cells S.out.mf))
      | (go_at_call 59; refine (HOn.out _ S.out.bel).mono ?_; rintro e w3 ⟨rfl, hb⟩; have S := Lib.hid (S.out.below hb); clear m0 m1 m2 m3 m4 m5 m6 m7 m8 y0 y1 y2 y3; obtain ⟨m0, m1, m2, m3, m4, m5, m6, m7, m8⟩ := miV_cells S.out.mi; obtain ⟨y0, y1, y2, y3⟩ := mfV_cells S.out.mf)
      | (go_at_call 60; refine (HTo.out _ S.out.bel S.out.mf).mono ?_; rintro e w4 ⟨rfl, hb⟩; have S := Lib.hid (S.out.below hb); clear m0 m1 m2 m3 m4 m5 m6 m7 m8 y0 y1 y2 y3; obtain ⟨m0, m1, m2, m3, m4, m5, m6, m7, m8⟩ := miV_cells S.out.mi; obtain ⟨y0, y1, y2, y3⟩ := mfV_cells S.out.mf))
    go_ret
    exact ⟨by rw [← hR]; simp, S.out.bel⟩
  · have p4 : ¬ (wt : Int) < (x.tos.length : Int) := of_decide_eq_false k4
    rcases a1 with _ | _
    · skip
      go_wp2_with (first
        | (go_at_call 58; first | (refine (HPd.out _ S.out.bel).mono ?_; clear HPd; rintro e w2 ⟨rfl, hb⟩; have S := Lib.hid (S.out.below hb); clear m0 m1 m2 m3 m4 m5 m6 m7 m8 y0 y1 y2 y3; obtain ⟨m0, m1, m2, m3, m4, m5, m6, m7, m8⟩ := miV_cells S.out.mi; obtain ⟨y0, y1, y2, y3⟩ := mfV_cells S.out.mf) | (refine (HPs.out _ S.out.bel).mono ?_; clear HPs; rintro e w2 ⟨rfl, hb⟩; have S := Lib.hid (S.out.below hb); clear m0 m1 m2 m3 m4 m5 m6 m7 m8 y0 y1 y2 y3; obtain ⟨m0, m1, m2, m3, m4, m5, m6, m7, m8⟩ := miV_cells S.out.mi; obtain ⟨y0, y1, y2, y3⟩ := mfV_cells S.out.mf))
        | (go_at_call 59; refine (HOn.out _ S.out.bel).mono ?_; rintro e w3 ⟨rfl, hb⟩; have S := Lib.hid (S.out.below hb); clear m0 m1 m2 m3 m4 m5 m6 m7 m8 y0 y1 y2 y3; obtain ⟨m0, m1, m2, m3, m4, m5, m6, m7, m8⟩ := miV_cells S.out.mi; obtain ⟨y0, y1, y2, y3⟩ := mfV_cells S.out.mf)
        | (go_at_call 60; refine (HTo.out _ S.out.bel S.out.mf).mono ?_; rintro e w4 ⟨rfl, hb⟩; have S := Lib.hid (S.out.below hb); clear m0 m1 m2 m3 m4 m5 m6 m7 m8 y0 y1 y2 y3; obtain ⟨m0, m1, m2, m3, m4, m5, m6, m7, m8⟩ := miV_cells S.out.mi; obtain ⟨y0, y1, y2, y3⟩ := mfV_cells S.out.mf))
      go_ret
      exact ⟨by rw [← hR]; simp, S.out.bel⟩
    rcases a2 with _ | _
    · skip
      go_wp2_with (first
        | (go_at_call 58; first | (refine (HPd.out _ S.out.bel).mono ?_; clear HPd; rintro e w2 ⟨rfl, hb⟩; have S := Lib.hid (S.out.below hb); clear m0 m1 m2 m3 m4 m5 m6 m7 m8 y0 y1 y2 y3; obtain ⟨m0, m1, m2, m3, m4, m5, m6, m7, m8⟩ := miV_cells S.out.mi; obtain ⟨y0, y1, y2, y3⟩ := mfV_cells S.out.mf) | (refine (HPs.out _ S.out.bel).mono ?_; clear HPs; rintro e w2 ⟨rfl, hb⟩; have S := Lib.hid (S.out.below hb); clear m0 m1 m2 m3 m4 m5 m6 m7 m8 y0 y1 y2 y3; obtain ⟨m0, m1, m2, m3, m4, m5, m6, m7, m8⟩ := miV_cells S.out.mi; obtain ⟨y0, y1, y2, y3⟩ := mfV_cells S.out.mf))
        | (go_at_call 59; refine (HOn.out _ S.out.bel).mono ?_; rintro e w3 ⟨rfl, hb⟩; have S := Lib.hid (S.out.below hb); clear m0 m1 m2 m3 m4 m5 m6 m7 m8 y0 y1 y2 y3; obtain ⟨m0, m1, m2, m3, m4, m5, m6, m7, m8⟩ := miV_cells S.out.mi; obtain ⟨y0, y1, y2, y3⟩ := mfV_cells S.out.mf)
        | (go_at_call 60; refine (HTo.out _ S.out.bel S.out.mf).mono ?_; rintro e w4 ⟨rfl, hb⟩; have S := Lib.hid (S.out.below hb); clear m0 m1 m2 m3 m4 m5 m6 m7 m8 y0 y1 y2 y3; obtain ⟨m0, m1, m2, m3, m4, m5, m6, m7, m8⟩ := miV_cells S.out.mi; obtain ⟨y0, y1, y2, y3⟩ := mfV_cells S.out.mf))
      go_ret
      exact ⟨by rw [← hR]; simp, S.out.bel⟩
    rcases a3 with _ | _
    · skip
      go_wp2_with (first
        | (go_at_call 58; first | (refine (HPd.out _ S.out.bel).mono ?_; clear HPd; rintro e w2 ⟨rfl, hb⟩; have S := Lib.hid (S.out.below hb); clear m0 m1 m2 m3 m4 m5 m6 m7 m8 y0 y1 y2 y3; obtain ⟨m0, m1, m2, m3, m4, m5, m6, m7, m8⟩ := miV_cells S.out.mi; obtain ⟨y0, y1, y2, y3⟩ := mfV_cells S.out.mf) | (refine (HPs.out _ S.out.bel).mono ?_; clear HPs; rintro e w2 ⟨rfl, hb⟩; have S := Lib.hid (S.out.below hb); clear m0 m1 m2 m3 m4 m5 m6 m7 m8 y0 y1 y2 y3; obtain ⟨m0, m1, m2, m3, m4, m5, m6, m7, m8⟩ := miV_cells S.out.mi; obtain ⟨y0, y1, y2, y3⟩ := mfV_cells S.out.mf))
        | (go_at_call 59; refine (HOn.out _ S.out.bel).mono ?_; rintro e w3 ⟨rfl, hb⟩; have S := Lib.hid (S.out.below hb); clear m0 m1 m2 m3 m4 m5 m6 m7 m8 y0 y1 y2 y3; obtain ⟨m0, m1, m2, m3, m4, m5, m6, m7, m8⟩ := miV_cells S.out.mi; obtain ⟨y0, y1, y2, y3⟩ := mfV_cells S.out.mf)
        | (go_at_call 60; refine (HTo.out _ S.out.bel S.out.mf).mono ?_; rintro e w4 ⟨rfl, hb⟩; have S := Lib.hid (S.out.below hb); clear m0 m1 m2 m3 m4 m5 m6 m7 m8 y0 y1 y2 y3; obtain ⟨m0, m1, m2, m3, m4, m5, m6, m7, m8⟩ := miV_cells S.out.mi; obtain ⟨y0, y1, y2, y3⟩ := mfV_cells S.out.mf))
      go_ret
      exact ⟨by rw [← hR]; simp, S.out.bel⟩
    go_wp2_with (first
      | (go_at_call 58; first | (refine (HPd.out _ S.out.bel).mono ?_; clear HPd; rintro e w2 ⟨rfl, hb⟩; have S := Lib.hid (S.out.below hb); clear m0 m1 m2 m3 m4 m5 m6 m7 m8 y0 y1 y2 y3; obtain ⟨m0, m1, m2, m3, m4, m5, m6, m7, m8⟩ := miV_cells S.out.mi; obtain ⟨y0, y1, y2, y3⟩ := mfV_cells S.out.mf) | (refine (HPs.out _ S.out.bel).mono ?_; clear HPs; rintro e w2 ⟨rfl, hb⟩; have S := Lib.hid (S.out.below hb); clear m0 m1 m2 m3 m4 m5 m6 m7 m8 y0 y1 y2 y3; obtain ⟨m0, m1, m2, m3, m4, m5, m6, m7, m8⟩ := miV_cells S.out.mi; obtain ⟨y0, y1, y2, y3⟩ := mfV_cells S.out.mf))
      | (go_at_call 59; refine (HOn.out _ S.out.bel).mono ?_; rintro e w3 ⟨rfl, hb⟩; have S := Lib.hid (S.out.below hb); clear m0 m1 m2 m3 m4 m5 m6 m7 m8 y0 y1 y2 y3; obtain ⟨m0, m1, m2, m3, m4, m5, m6, m7, m8⟩ := miV_cells S.out.mi; obtain ⟨y0, y1, y2, y3⟩ := mfV_cells S.out.mf)
      | (go_at_call 60; refine (HTo.out _ S.out.bel S.out.mf).mono ?_; rintro e w4 ⟨rfl, hb⟩; have S := Lib.hid (S.out.below hb); clear m0 m1 m2 m3 m4 m5 m6 m7 m8 y0 y1 y2 y3; obtain ⟨m0, m1, m2, m3, m4, m5, m6, m7, m8⟩ := miV_cells S.out.mi; obtain ⟨y0, y1, y2, y3⟩ := mfV_cells S.out.mf))
    go_ret
    exact ⟨by rw [← hR]; simp, S.out.bel⟩
end Go.Proofs.YtadnfekogmjieaaGreatDoor
