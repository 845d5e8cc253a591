/-
  Layer 51: mach's Same. (Printed by gen_ms9.py.)
  Layer 51: mach's Same. (Printed by gen_ms10.py.)
-/
import Derived.Test.YtadnfekogmjieaaGreatDoorGGK
set_option linter.unusedVariables false
set_option linter.unusedSimpArgs false
namespace Go.Proofs.YtadnfekogmjieaaGreatDoor
open Go.RowKit
open Mc (Pl Mi Mf)
set_option maxHeartbeats 8000000 in
set_option maxRecDepth 100000 in
theorem sameF_any (x y : Mi) (l1 : x.d.length ≤ 1000000) (l2 : x.s.length ≤ 1000000) (l3 : x.tos.length ≤ 1000000) (S S' : Nat → Prop) (xD : Option Addr) (xc1 : Nat) (xE : Option Addr) (xc2 : Nat) (xT : Option Addr) (xc3 : Nat) (yD : Option Addr) (yc1 : Nat) (yE : Option Addr) (yc2 : Nat) (yT : Option Addr) (yc3 : Nat) (w : World) (h : MiRd S w x xD xE xT) (h' : MiRd S' w y yD yE yT) :
    Calls Tryz.prog 41 #[.agg (miV x xD xc1 xE xc2 xT xc3), .agg (miV y yD yc1 yE yc2 yT yc3)] w fun e w' => e = .returned (.bool (decide (x = y))) ∧ Below w.heap.size w w' := by
  rw [← Mc.miEq_iff]
  have HD := Lib.hid (fun W (hb : Below w.heap.size w W) => eqP_any S S' xD yD xc1 yc1 x.d y.d W (RdP.on h.d hb) (RdP.on h'.d hb) l1)
  have HE := Lib.hid (fun W (hb : Below w.heap.size w W) => eqP_any S S' xE yE xc2 yc2 x.s y.s W (RdP.on h.s hb) (RdP.on h'.s hb) l2)
  have HT := Lib.hid (fun W (hb : Below w.heap.size w W) => eqN_any S S' xT yT xc3 yc3 x.tos y.tos W (RdZ.on h.t hb) (RdZ.on h'.t hb) l3)
  obtain ⟨R, hR⟩ : ∃ R, Mc.miEq x y = R := ⟨_, rfl⟩
  rw [hR]
  unfold Mc.miEq at hR
  obtain ⟨fd, hfd⟩ : ∃ v, decide (x.d = y.d) = v := ⟨_, rfl⟩
  obtain ⟨fs, hfs⟩ : ∃ v, decide (x.s = y.s) = v := ⟨_, rfl⟩
  obtain ⟨ft, hft⟩ : ∃ v, decide (x.tos = y.tos) = v := ⟨_, rfl⟩
  rw [hfd] at HD hR
  rw [hfs] at HE hR
  rw [hft] at HT hR
  clear hfd hfs hft l1 l2 l3 h h'
  obtain ⟨xkind, xop, xa, xb, xn, xd, xs, xtos, xtrap⟩ := x
  obtain ⟨ykind, yop, ya, yb, yn, yd, ys, ytos, ytrap⟩ := y
  unfold miV
  dsimp only at *
  have hb1 := (Below.refl w.heap.size w).alloc (Nat.le_refl _) (.cells #[.int .i64 xkind, .int .i64 xop, .int .i64 xa, .int .i64 xb, .int .u64 (xn : Int), .slice xD xd.length xc1, .slice xE xs.length xc2, .slice xT xtos.length xc3, .int .i64 xtrap] 61)
  have v1 := Var.new w #[.int .i64 xkind, .int .i64 xop, .int .i64 xa, .int .i64 xb, .int .u64 (xn : Int), .slice xD xd.length xc1, .slice xE xs.length xc2, .slice xT xtos.length xc3, .int .i64 xtrap] 61
  have HB := Lib.hid (hb1.alloc hb1.size (.cells #[.int .i64 ykind, .int .i64 yop, .int .i64 ya, .int .i64 yb, .int .u64 (yn : Int), .slice yD yd.length yc1, .slice yE ys.length yc2, .slice yT ytos.length yc3, .int .i64 ytrap] 61))
  have HV1 := Lib.hid (v1.alloc (.cells #[.int .i64 ykind, .int .i64 yop, .int .i64 ya, .int .i64 yb, .int .u64 (yn : Int), .slice yD yd.length yc1, .slice yE ys.length yc2, .slice yT ytos.length yc3, .int .i64 ytrap] 61))
  have HV2 := Lib.hid (Var.newE (w.alloc (.cells #[.int .i64 xkind, .int .i64 xop, .int .i64 xa, .int .i64 xb, .int .u64 (xn : Int), .slice xD xd.length xc1, .slice xE xs.length xc2, .slice xT xtos.length xc3, .int .i64 xtrap] 61)) #[.int .i64 ykind, .int .i64 yop, .int .i64 ya, .int .i64 yb, .int .u64 (yn : Int), .slice yD yd.length yc1, .slice yE ys.length yc2, .slice yT ytos.length yc3, .int .i64 ytrap] 61 (K := w.heap.size + 1) (by simp))
  clear hb1 v1
  rcases k0 : (xkind == ykind) with _ | _
  · skip
    rw [show decide (xkind = ykind) = false by (have h := k0; simp at h ⊢; omega)] at hR
    have HX := Lib.hid hR
    clear hR
    go_enter Tryz.func41, Tryz.ntmps41
    go_wp2_with (first
      | (go_at_call 42; with_reducible refine (HD.out _ HB.out).mono ?_; rintro e w0 ⟨rfl, hb⟩; have HB0 := Lib.hid (HB.out.trans (hb.mono HB.out.size)); have V10 := var_keep HV1.out hb; have V20 := var_keep HV2.out hb; obtain ⟨a00, a10, a20, a30, a40, a50, a60, a70, a80⟩ := cells9 V10; obtain ⟨b00, b10, b20, b30, b40, b50, b60, b70, b80⟩ := cells9 V20; clear hb)
      | (go_at_call 42; with_reducible refine (HE.out _ HB0.out).mono ?_; rintro e w1 ⟨rfl, hb⟩; have HB1 := Lib.hid (HB0.out.trans (hb.mono HB0.out.size)); have V11 := var_keep V10 hb; have V21 := var_keep V20 hb; obtain ⟨a01, a11, a21, a31, a41, a51, a61, a71, a81⟩ := cells9 V11; obtain ⟨b01, b11, b21, b31, b41, b51, b61, b71, b81⟩ := cells9 V21; clear hb)
      | (go_at_call 43; with_reducible refine (HT.out _ HB1.out).mono ?_; rintro e w2 ⟨rfl, hb⟩; have HB2 := Lib.hid (HB1.out.trans (hb.mono HB1.out.size)); have V12 := var_keep V11 hb; have V22 := var_keep V21 hb; obtain ⟨a02, a12, a22, a32, a42, a52, a62, a72, a82⟩ := cells9 V12; obtain ⟨b02, b12, b22, b32, b42, b52, b62, b72, b82⟩ := cells9 V22; clear hb))
    go_ret
    exact ⟨by rw [← HX.out]; rfl, HB.out⟩
  -- true
  rw [show decide (xkind = ykind) = true by (have h := k0; simp at h ⊢; omega)] at hR
  rcases k1 : (xop == yop) with _ | _
  · skip
    rw [show decide (xop = yop) = false by (have h := k1; simp at h ⊢; omega)] at hR
    have HX := Lib.hid hR
    clear hR
    go_enter Tryz.func41, Tryz.ntmps41
    go_wp2_with (first
      | (go_at_call 42; with_reducible refine (HD.out _ HB.out).mono ?_; rintro e w0 ⟨rfl, hb⟩; have HB0 := Lib.hid (HB.out.trans (hb.mono HB.out.size)); have V10 := var_keep HV1.out hb; have V20 := var_keep HV2.out hb; obtain ⟨a00, a10, a20, a30, a40, a50, a60, a70, a80⟩ := cells9 V10; obtain ⟨b00, b10, b20, b30, b40, b50, b60, b70, b80⟩ := cells9 V20; clear hb)
      | (go_at_call 42; with_reducible refine (HE.out _ HB0.out).mono ?_; rintro e w1 ⟨rfl, hb⟩; have HB1 := Lib.hid (HB0.out.trans (hb.mono HB0.out.size)); have V11 := var_keep V10 hb; have V21 := var_keep V20 hb; obtain ⟨a01, a11, a21, a31, a41, a51, a61, a71, a81⟩ := cells9 V11; obtain ⟨b01, b11, b21, b31, b41, b51, b61, b71, b81⟩ := cells9 V21; clear hb)
      | (go_at_call 43; with_reducible refine (HT.out _ HB1.out).mono ?_; rintro e w2 ⟨rfl, hb⟩; have HB2 := Lib.hid (HB1.out.trans (hb.mono HB1.out.size)); have V12 := var_keep V11 hb; have V22 := var_keep V21 hb; obtain ⟨a02, a12, a22, a32, a42, a52, a62, a72, a82⟩ := cells9 V12; obtain ⟨b02, b12, b22, b32, b42, b52, b62, b72, b82⟩ := cells9 V22; clear hb))
    go_ret
    exact ⟨by rw [← HX.out]; rfl, HB.out⟩
  -- true
  rw [show decide (xop = yop) = true by (have h := k1; simp at h ⊢; omega)] at hR
  rcases k2 : (xa == ya) with _ | _
  · skip
    rw [show decide (xa = ya) = false by (have h := k2; simp at h ⊢; omega)] at hR
    have HX := Lib.hid hR
    clear hR
    go_enter Tryz.func41, Tryz.ntmps41
    go_wp2_with (first
      | (go_at_call 42; with_reducible refine (HD.out _ HB.out).mono ?_; rintro e w0 ⟨rfl, hb⟩; have HB0 := Lib.hid (HB.out.trans (hb.mono HB.out.size)); have V10 := var_keep HV1.out hb; have V20 := var_keep HV2.out hb; obtain ⟨a00, a10, a20, a30, a40, a50, a60, a70, a80⟩ := cells9 V10; obtain ⟨b00, b10, b20, b30, b40, b50, b60, b70, b80⟩ := cells9 V20; clear hb)
      | (go_at_call 42; with_reducible refine (HE.out _ HB0.out).mono ?_; rintro e w1 ⟨rfl, hb⟩; have HB1 := Lib.hid (HB0.out.trans (hb.mono HB0.out.size)); have V11 := var_keep V10 hb; have V21 := var_keep V20 hb; obtain ⟨a01, a11, a21, a31, a41, a51, a61, a71, a81⟩ := cells9 V11; obtain ⟨b01, b11, b21, b31, b41, b51, b61, b71, b81⟩ := cells9 V21; clear hb)
      | (go_at_call 43; with_reducible refine (HT.out _ HB1.out).mono ?_; rintro e w2 ⟨rfl, hb⟩; have HB2 := Lib.hid (HB1.out.trans (hb.mono HB1.out.size)); have V12 := var_keep V11 hb; have V22 := var_keep V21 hb; obtain ⟨a02, a12, a22, a32, a42, a52, a62, a72, a82⟩ := cells9 V12; obtain ⟨b02, b12, b22, b32, b42, b52, b62, b72, b82⟩ := cells9 V22; clear hb))
    go_ret
    exact ⟨by rw [← HX.out]; rfl, HB.out⟩
  -- true
  rw [show decide (xa = ya) = true by (have h := k2; simp at h ⊢; omega)] at hR
  rcases k3 : (xb == yb) with _ | _
  · skip
    rw [show decide (xb = yb) = false by (have h := k3; simp at h ⊢; omega)] at hR
    have HX := Lib.hid hR
    clear hR
    go_enter Tryz.func41, Tryz.ntmps41
    go_wp2_with (first
      | (go_at_call 42; with_reducible refine (HD.out _ HB.out).mono ?_; rintro e w0 ⟨rfl, hb⟩; have HB0 := Lib.hid (HB.out.trans (hb.mono HB.out.size)); have V10 := var_keep HV1.out hb; have V20 := var_keep HV2.out hb; obtain ⟨a00, a10, a20, a30, a40, a50, a60, a70, a80⟩ := cells9 V10; obtain ⟨b00, b10, b20, b30, b40, b50, b60, b70, b80⟩ := cells9 V20; clear hb)
      | (go_at_call 42; with_reducible refine (HE.out _ HB0.out).mono ?_; rintro e w1 ⟨rfl, hb⟩; have HB1 := Lib.hid (HB0.out.trans (hb.mono HB0.out.size)); have V11 := var_keep V10 hb; have V21 := var_keep V20 hb; obtain ⟨a01, a11, a21, a31, a41, a51, a61, a71, a81⟩ := cells9 V11; obtain ⟨b01, b11, b21, b31, b41, b51, b61, b71, b81⟩ := cells9 V21; clear hb)
      | (go_at_call 43; with_reducible refine (HT.out _ HB1.out).mono ?_; rintro e w2 ⟨rfl, hb⟩; have HB2 := Lib.hid (HB1.out.trans (hb.mono HB1.out.size)); have V12 := var_keep V11 hb; have V22 := var_keep V21 hb; obtain ⟨a02, a12, a22, a32, a42, a52, a62, a72, a82⟩ := cells9 V12; obtain ⟨b02, b12, b22, b32, b42, b52, b62, b72, b82⟩ := cells9 V22; clear hb))
    go_ret
    exact ⟨by rw [← HX.out]; rfl, HB.out⟩
  -- true
  rw [show decide (xb = yb) = true by (have h := k3; simp at h ⊢; omega)] at hR
  rcases k4 : ((xn : Int) == (yn : Int)) with _ | _
  · skip
    rw [show decide (xn = yn) = false by (have h := k4; simp at h ⊢; omega)] at hR
    have HX := Lib.hid hR
    clear hR
    go_enter Tryz.func41, Tryz.ntmps41
    go_wp2_with (first
      | (go_at_call 42; with_reducible refine (HD.out _ HB.out).mono ?_; rintro e w0 ⟨rfl, hb⟩; have HB0 := Lib.hid (HB.out.trans (hb.mono HB.out.size)); have V10 := var_keep HV1.out hb; have V20 := var_keep HV2.out hb; obtain ⟨a00, a10, a20, a30, a40, a50, a60, a70, a80⟩ := cells9 V10; obtain ⟨b00, b10, b20, b30, b40, b50, b60, b70, b80⟩ := cells9 V20; clear hb)
      | (go_at_call 42; with_reducible refine (HE.out _ HB0.out).mono ?_; rintro e w1 ⟨rfl, hb⟩; have HB1 := Lib.hid (HB0.out.trans (hb.mono HB0.out.size)); have V11 := var_keep V10 hb; have V21 := var_keep V20 hb; obtain ⟨a01, a11, a21, a31, a41, a51, a61, a71, a81⟩ := cells9 V11; obtain ⟨b01, b11, b21, b31, b41, b51, b61, b71, b81⟩ := cells9 V21; clear hb)
      | (go_at_call 43; with_reducible refine (HT.out _ HB1.out).mono ?_; rintro e w2 ⟨rfl, hb⟩; have HB2 := Lib.hid (HB1.out.trans (hb.mono HB1.out.size)); have V12 := var_keep V11 hb; have V22 := var_keep V21 hb; obtain ⟨a02, a12, a22, a32, a42, a52, a62, a72, a82⟩ := cells9 V12; obtain ⟨b02, b12, b22, b32, b42, b52, b62, b72, b82⟩ := cells9 V22; clear hb))
    go_ret
    exact ⟨by rw [← HX.out]; rfl, HB.out⟩
  -- true
  rw [show decide (xn = yn) = true by (have h := k4; simp at h ⊢; omega)] at hR
  rcases k5 : (xtrap == ytrap) with _ | _
  · skip
    rw [show decide (xtrap = ytrap) = false by (have h := k5; simp at h ⊢; omega)] at hR
    have HX := Lib.hid hR
    clear hR
    go_enter Tryz.func41, Tryz.ntmps41
    go_wp2_with (first
      | (go_at_call 42; with_reducible refine (HD.out _ HB.out).mono ?_; rintro e w0 ⟨rfl, hb⟩; have HB0 := Lib.hid (HB.out.trans (hb.mono HB.out.size)); have V10 := var_keep HV1.out hb; have V20 := var_keep HV2.out hb; obtain ⟨a00, a10, a20, a30, a40, a50, a60, a70, a80⟩ := cells9 V10; obtain ⟨b00, b10, b20, b30, b40, b50, b60, b70, b80⟩ := cells9 V20; clear hb)
      | (go_at_call 42; with_reducible refine (HE.out _ HB0.out).mono ?_; rintro e w1 ⟨rfl, hb⟩; have HB1 := Lib.hid (HB0.out.trans (hb.mono HB0.out.size)); have V11 := var_keep V10 hb; have V21 := var_keep V20 hb; obtain ⟨a01, a11, a21, a31, a41, a51, a61, a71, a81⟩ := cells9 V11; obtain ⟨b01, b11, b21, b31, b41, b51, b61, b71, b81⟩ := cells9 V21; clear hb)
      | (go_at_call 43; with_reducible refine (HT.out _ HB1.out).mono ?_; rintro e w2 ⟨rfl, hb⟩; have HB2 := Lib.hid (HB1.out.trans (hb.mono HB1.out.size)); have V12 := var_keep V11 hb; have V22 := var_keep V21 hb; obtain ⟨a02, a12, a22, a32, a42, a52, a62, a72, a82⟩ := cells9 V12; obtain ⟨b02, b12, b22, b32, b42, b52, b62, b72, b82⟩ := cells9 V22; clear hb))
    go_ret
    exact ⟨by rw [← HX.out]; rfl, HB.out⟩
  -- true
  rw [show decide (xtrap = ytrap) = true by (have h := k5; simp at h ⊢; omega)] at hR
  rcases fd with _ | _
  · skip
    have HX := Lib.hid hR
    clear hR
    go_enter Tryz.func41, Tryz.ntmps41
    go_wp2_with (first
      | (go_at_call 42; with_reducible refine (HD.out _ HB.out).mono ?_; rintro e w0 ⟨rfl, hb⟩; have HB0 := Lib.hid (HB.out.trans (hb.mono HB.out.size)); have V10 := var_keep HV1.out hb; have V20 := var_keep HV2.out hb; obtain ⟨a00, a10, a20, a30, a40, a50, a60, a70, a80⟩ := cells9 V10; obtain ⟨b00, b10, b20, b30, b40, b50, b60, b70, b80⟩ := cells9 V20; clear hb)
      | (go_at_call 42; with_reducible refine (HE.out _ HB0.out).mono ?_; rintro e w1 ⟨rfl, hb⟩; have HB1 := Lib.hid (HB0.out.trans (hb.mono HB0.out.size)); have V11 := var_keep V10 hb; have V21 := var_keep V20 hb; obtain ⟨a01, a11, a21, a31, a41, a51, a61, a71, a81⟩ := cells9 V11; obtain ⟨b01, b11, b21, b31, b41, b51, b61, b71, b81⟩ := cells9 V21; clear hb)
      | (go_at_call 43; with_reducible refine (HT.out _ HB1.out).mono ?_; rintro e w2 ⟨rfl, hb⟩; have HB2 := Lib.hid (HB1.out.trans (hb.mono HB1.out.size)); have V12 := var_keep V11 hb; have V22 := var_keep V21 hb; obtain ⟨a02, a12, a22, a32, a42, a52, a62, a72, a82⟩ := cells9 V12; obtain ⟨b02, b12, b22, b32, b42, b52, b62, b72, b82⟩ := cells9 V22; clear hb))
    go_ret
    exact ⟨by rw [← HX.out]; rfl, HB0.out⟩
  rcases fs with _ | _
  · skip
    have HX := Lib.hid hR
    clear hR
    go_enter Tryz.func41, Tryz.ntmps41
    go_wp2_with (first
      | (go_at_call 42; with_reducible refine (HD.out _ HB.out).mono ?_; rintro e w0 ⟨rfl, hb⟩; have HB0 := Lib.hid (HB.out.trans (hb.mono HB.out.size)); have V10 := var_keep HV1.out hb; have V20 := var_keep HV2.out hb; obtain ⟨a00, a10, a20, a30, a40, a50, a60, a70, a80⟩ := cells9 V10; obtain ⟨b00, b10, b20, b30, b40, b50, b60, b70, b80⟩ := cells9 V20; clear hb)
      | (go_at_call 42; with_reducible refine (HE.out _ HB0.out).mono ?_; rintro e w1 ⟨rfl, hb⟩; have HB1 := Lib.hid (HB0.out.trans (hb.mono HB0.out.size)); have V11 := var_keep V10 hb; have V21 := var_keep V20 hb; obtain ⟨a01, a11, a21, a31, a41, a51, a61, a71, a81⟩ := cells9 V11; obtain ⟨b01, b11, b21, b31, b41, b51, b61, b71, b81⟩ := cells9 V21; clear hb)
      | (go_at_call 43; with_reducible refine (HT.out _ HB1.out).mono ?_; rintro e w2 ⟨rfl, hb⟩; have HB2 := Lib.hid (HB1.out.trans (hb.mono HB1.out.size)); have V12 := var_keep V11 hb; have V22 := var_keep V21 hb; obtain ⟨a02, a12, a22, a32, a42, a52, a62, a72, a82⟩ := cells9 V12; obtain ⟨b02, b12, b22, b32, b42, b52, b62, b72, b82⟩ := cells9 V22; clear hb))
    go_ret
    exact ⟨by rw [← HX.out]; rfl, HB1.out⟩
  rcases ft with _ | _
  · skip
    have HX := Lib.hid hR
    clear hR
    go_enter Tryz.func41, Tryz.ntmps41
    go_wp2_with (first
      | (go_at_call 42; with_reducible refine (HD.out _ HB.out).mono ?_; rintro e w0 ⟨rfl, hb⟩; have HB0 := Lib.hid (HB.out.trans (hb.mono HB.out.size)); have V10 := var_keep HV1.out hb; have V20 := var_keep HV2.out hb; obtain ⟨a00, a10, a20, a30, a40, a50, a60, a70, a80⟩ := cells9 V10; obtain ⟨b00, b10, b20, b30, b40, b50, b60, b70, b80⟩ := cells9 V20; clear hb)
      | (go_at_call 42; with_reducible refine (HE.out _ HB0.out).mono ?_; rintro e w1 ⟨rfl, hb⟩; have HB1 := Lib.hid (HB0.out.trans (hb.mono HB0.out.size)); have V11 := var_keep V10 hb; have V21 := var_keep V20 hb; obtain ⟨a01, a11, a21, a31, a41, a51, a61, a71, a81⟩ := cells9 V11; obtain ⟨b01, b11, b21, b31, b41, b51, b61, b71, b81⟩ := cells9 V21; clear hb)
      | (go_at_call 43; with_reducible refine (HT.out _ HB1.out).mono ?_; rintro e w2 ⟨rfl, hb⟩; have HB2 := Lib.hid (HB1.out.trans (hb.mono HB1.out.size)); have V12 := var_keep V11 hb; have V22 := var_keep V21 hb; obtain ⟨a02, a12, a22, a32, a42, a52, a62, a72, a82⟩ := cells9 V12; obtain ⟨b02, b12, b22, b32, b42, b52, b62, b72, b82⟩ := cells9 V22; clear hb))
    go_ret
    exact ⟨by rw [← HX.out]; rfl, HB2.out⟩
  have HX := Lib.hid hR
  clear hR
  go_enter Tryz.func41, Tryz.ntmps41
  go_wp2_with (first
      | (go_at_call 42; with_reducible refine (HD.out _ HB.out).mono ?_; rintro e w0 ⟨rfl, hb⟩; have HB0 := Lib.hid (HB.out.trans (hb.mono HB.out.size)); have V10 := var_keep HV1.out hb; have V20 := var_keep HV2.out hb; obtain ⟨a00, a10, a20, a30, a40, a50, a60, a70, a80⟩ := cells9 V10; obtain ⟨b00, b10, b20, b30, b40, b50, b60, b70, b80⟩ := cells9 V20; clear hb)
      | (go_at_call 42; with_reducible refine (HE.out _ HB0.out).mono ?_; rintro e w1 ⟨rfl, hb⟩; have HB1 := Lib.hid (HB0.out.trans (hb.mono HB0.out.size)); have V11 := var_keep V10 hb; have V21 := var_keep V20 hb; obtain ⟨a01, a11, a21, a31, a41, a51, a61, a71, a81⟩ := cells9 V11; obtain ⟨b01, b11, b21, b31, b41, b51, b61, b71, b81⟩ := cells9 V21; clear hb)
      | (go_at_call 43; with_reducible refine (HT.out _ HB1.out).mono ?_; rintro e w2 ⟨rfl, hb⟩; have HB2 := Lib.hid (HB1.out.trans (hb.mono HB1.out.size)); have V12 := var_keep V11 hb; have V22 := var_keep V21 hb; obtain ⟨a02, a12, a22, a32, a42, a52, a62, a72, a82⟩ := cells9 V12; obtain ⟨b02, b12, b22, b32, b42, b52, b62, b72, b82⟩ := cells9 V22; clear hb))
  go_ret
  exact ⟨by rw [← HX.out]; rfl, HB2.out⟩
set_option maxHeartbeats 4000000 in
set_option maxRecDepth 100000 in
theorem eqM_any (S S' : Nat → Prop) (A B : Option Addr) (c d : Nat) (xs ys : List Mi) (w : World) (ha : RdM w S A xs) (hb : RdM w S' B ys) (hl : xs.length ≤ 1000000) (hx : ∀ x ∈ xs, x.d.length ≤ 1000000 ∧ x.s.length ≤ 1000000 ∧ x.tos.length ≤ 1000000) :
    Calls Tryz.prog 40 #[.slice A xs.length c, .slice B ys.length d, .func (.func 41) #[] #[]] w fun e w' => e = .returned (.bool (decide (xs = ys))) ∧ Below w.heap.size w w' := by
  by_cases h : xs.length = ys.length
  · obtain ⟨n, hn⟩ : ∃ n, ys.length = n := ⟨_, rfl⟩
    rw [h, hn]
    have han : xs.length = n := h.trans hn
    go_enter Tryz.func40, Tryz.ntmps40
    go_wp2
    go_loopw [17] (fun iv wr => ∃ k : Nat, k ≤ n ∧ iv = .int .i64 (k : Int) ∧ Hid (decide (xs = ys) = decide (xs.drop k = ys.drop k)) ∧ Below w.heap.size w wr) (fun iv _ => n - (intOf iv).toNat)
    case atStart => exact ⟨0, by omega, rfl, by simp [Hid], Below.refl _ _⟩
    case round =>
      obtain ⟨k, hk, rfl, HR, hB⟩ := hrel
      by_cases hkl : k < n
      · obtain ⟨g, o, rfl, -, hga, hat⟩ := (RdM.on ha hB).get (show k < xs.length by omega)
        obtain ⟨g2, o2, rfl, -, hgb, hat2⟩ := (RdM.on hb hB).get (show k < ys.length by omega)
        obtain ⟨D, d1, E, d2, T, d3, ⟨f0, f1, f2, f3, f4, f5, f6, f7, f8⟩, hrd⟩ := hat.cells
        obtain ⟨D', d1', E', d2', T', d3', ⟨g0, g1, g2', g3, g4, g5, g6, g7, g8⟩, hrd'⟩ := hat2.cells
        obtain ⟨m1, m2, m3⟩ := hx xs[k] (List.getElem_mem _)
        obtain ⟨t, ht⟩ : ∃ t, xs[k] = t := ⟨_, rfl⟩
        obtain ⟨u, hu⟩ : ∃ u, ys[k] = u := ⟨_, rfl⟩
        simp only [ht] at f0 f1 f2 f3 f4 f5 f6 f7 f8 hrd m1 m2 m3
        simp only [hu] at g0 g1 g2' g3 g4 g5 g6 g7 g8 hrd'
        have hd := drop_cons2 (by omega) ht
        have hd' := drop_cons2 (by omega) hu
        have hk0 : (0 : Int) ≤ (k : Int) := Int.natCast_nonneg _
        have hk1 : (k : Int) < (n : Int) := by omega
        have HF := Lib.hid (fun W (hb : Below wr.heap.size wr W) => sameF_any t u m1 m2 m3 S S' D d1 E d2 T d3 D' d1' E' d2' T' d3' W (hrd.on hb) (hrd'.on hb))
        have hba := (Below.refl wr.heap.size wr).alloc (Nat.le_refl _) (.cells (miV t D d1 E d2 T d3) 61)
        have HBA := Lib.hid (hba.alloc hba.size (.cells (miV u D' d1' E' d2' T' d3') 61))
        unfold miV at HF HBA
        clear hat hat2 hba
        have HBW := Lib.hid hB
        clear hB
        rcases hv : decide (t = u) with _ | _
        · have hf : Hid (decide (xs = ys) = false) := by
            unfold Hid
            rw [HR.out, hd, hd']
            simp only [List.cons.injEq, decide_eq_false_iff_not]
            simp only [decide_eq_false_iff_not] at hv
            exact fun e => hv e.1
          rw [hv] at HF
          clear ht hu hd hd' hv hrd hrd'
          go_wp2_with (go_at_call 41; with_reducible refine (HF.out _ HBA.out).mono ?_; rintro e w1 ⟨rfl, hb1⟩; have HB1 := Lib.hid (HBW.out.trans ((HBA.out.trans (hb1.mono HBA.out.size)).mono HBW.out.size)); clear hb1)
          go_ret
          exact ⟨by rw [hf.out]; rfl, HB1.out⟩
        · have hf : Hid (decide (xs = ys) = decide (xs.drop (k + 1) = ys.drop (k + 1))) := by
            unfold Hid
            rw [HR.out, hd, hd', of_decide_eq_true hv]
            simp
          rw [hv] at HF
          clear ht hu hd hd' hv hrd hrd'
          go_wp2_with (go_at_call 41; with_reducible refine (HF.out _ HBA.out).mono ?_; rintro e w1 ⟨rfl, hb1⟩; have HB1 := Lib.hid (HBW.out.trans ((HBA.out.trans (hb1.mono HBA.out.size)).mono HBW.out.size)); clear hb1)
          go_roundw
          case rel => exact ⟨k + 1, by omega, by go_num, hf, HB1.out⟩
          case measure => simp [intOf]; omega
      · have hf : Hid (decide (xs = ys) = true) := by unfold Hid; rw [HR.out, List.drop_of_length_le (by omega), List.drop_of_length_le (by omega)]; simp
        have hk1 : ¬ (k : Int) < (n : Int) := by omega
        have HBW := Lib.hid hB
        clear hB
        go_wp2
        go_ret
        exact ⟨by rw [hf.out]; rfl, HBW.out⟩
  · have hf : Hid (decide (xs = ys) = false) := by unfold Hid; simp; intro e; exact h (by rw [e])
    have g1 : ((xs.length : Int) == (ys.length : Int)) = false := by simp; omega
    have g2 : ((xs.length : Int) != (ys.length : Int)) = true := by simp [bne, g1]
    go_enter Tryz.func40, Tryz.ntmps40
    go_wp2
    go_ret
    exact ⟨by rw [hf.out]; rfl, Below.refl _ _⟩
end Go.Proofs.YtadnfekogmjieaaGreatDoor
set_option linter.unusedVariables false
set_option linter.unusedSimpArgs false
namespace Go.Proofs.YtadnfekogmjieaaGreatDoor
open Go.RowKit
open Mc (Pl Mi Mf)
namespace Mc
theorem mfEq_iff (f g : Mf) : (((decide (f.ps = g.ps) && decide (f.rs = g.rs)) && decide (f.slots = g.slots)) && decide (f.code = g.code)) = decide (f = g) := by
  obtain ⟨a, b, c, d⟩ := f
  obtain ⟨a', b', c', d'⟩ := g
  simp only [Mf.mk.injEq, Bool.decide_and, Bool.and_assoc]
end Mc
set_option maxHeartbeats 4000000 in
set_option maxRecDepth 100000 in
theorem same_mf_any (x y : Mf) (hp : x.ps.length ≤ 1000) (hr : x.rs.length ≤ 1000) (hl : x.code.length ≤ 1000000) (hx : ∀ z ∈ x.code, z.d.length ≤ 1000000 ∧ z.s.length ≤ 1000000 ∧ z.tos.length ≤ 1000000) (S S' : Nat → Prop) (xP : Option Addr) (xc1 : Nat) (xR : Option Addr) (xc2 : Nat) (xC : Option Addr) (xc3 : Nat) (yP : Option Addr) (yc1 : Nat) (yR : Option Addr) (yc2 : Nat) (yC : Option Addr) (yc3 : Nat) (w : World) (h : MfAt S w x xP xR xC) (h' : MfAt S' w y yP yR yC) :
    Calls Tryz.prog 16 #[.agg (mfV x xP xc1 xR xc2 xC xc3), .agg (mfV y yP yc1 yR yc2 yC yc3)] w fun e w' => e = .returned (.bool (decide (x = y))) ∧ Below w.heap.size w w' := by
  rw [← Mc.mfEq_iff]
  have HT := Lib.hid (fun W (hb : Below w.heap.size w W) => typesSame_any xP xR yP yR xc1 xc2 yc1 yc2 x.ps x.rs y.ps y.rs W (RdZ.on h.ps hb).rds.rdI (RdZ.on h.rs hb).rds.rdI (RdZ.on h'.ps hb).rds.rdI (RdZ.on h'.rs hb).rds.rdI hp hr)
  have HC := Lib.hid (fun W (hb : Below w.heap.size w W) => eqM_any S S' xC yC xc3 yc3 x.code y.code W (RdM.on h.code hb) (RdM.on h'.code hb) hl hx)
  obtain ⟨ty, hty⟩ : ∃ v, (decide (x.ps = y.ps) && decide (x.rs = y.rs)) = v := ⟨_, rfl⟩
  obtain ⟨cd, hcd⟩ : ∃ v, decide (x.code = y.code) = v := ⟨_, rfl⟩
  rw [hty] at HT ⊢
  rw [hcd] at HC ⊢
  clear hty hcd hp hr hl hx h h'
  obtain ⟨xps, xrs, xslots, xcode⟩ := x
  obtain ⟨yps, yrs, yslots, ycode⟩ := y
  unfold mfV
  dsimp only at *
  have hb1 := (Below.refl w.heap.size w).alloc (Nat.le_refl _) (.cells #[.slice xP xps.length xc1, .slice xR xrs.length xc2, .int .i64 xslots, .slice xC xcode.length xc3] 39)
  have v1 := Var.new w #[.slice xP xps.length xc1, .slice xR xrs.length xc2, .int .i64 xslots, .slice xC xcode.length xc3] 39
  have HB := Lib.hid (hb1.alloc hb1.size (.cells #[.slice yP yps.length yc1, .slice yR yrs.length yc2, .int .i64 yslots, .slice yC ycode.length yc3] 39))
  have HV1 := Lib.hid (v1.alloc (.cells #[.slice yP yps.length yc1, .slice yR yrs.length yc2, .int .i64 yslots, .slice yC ycode.length yc3] 39))
  have HV2 := Lib.hid (Var.newE (w.alloc (.cells #[.slice xP xps.length xc1, .slice xR xrs.length xc2, .int .i64 xslots, .slice xC xcode.length xc3] 39)) #[.slice yP yps.length yc1, .slice yR yrs.length yc2, .int .i64 yslots, .slice yC ycode.length yc3] 39 (K := w.heap.size + 1) (by simp))
  clear hb1 v1
  rcases ty with _ | _
  · skip
    go_enter Tryz.func16, Tryz.ntmps16
    go_wp2_with (first
      | (go_at_call 39; with_reducible refine (HT.out _ HB.out).mono ?_; rintro e w0 ⟨rfl, hb⟩; have HB0 := Lib.hid (HB.out.trans (hb.mono HB.out.size)); have V1 := var_keep HV1.out hb; have V2 := var_keep HV2.out hb; obtain ⟨⟨a0, a1, a2, a3⟩, -⟩ := cells4' V1; obtain ⟨⟨b0, b1, b2, b3⟩, -⟩ := cells4' V2; clear hb)
      | (go_at_call 40; with_reducible refine (HC.out _ HB0.out).mono ?_; rintro e w1 ⟨rfl, hb⟩; have HB1 := Lib.hid (HB0.out.trans (hb.mono HB0.out.size)); clear hb))
    go_ret
    exact ⟨by simp, HB0.out⟩
  rcases k : (xslots == yslots) with _ | _
  · rw [show decide (xslots = yslots) = false by (have h := k; simp at h ⊢; exact h)]
    go_enter Tryz.func16, Tryz.ntmps16
    go_wp2_with (first
      | (go_at_call 39; with_reducible refine (HT.out _ HB.out).mono ?_; rintro e w0 ⟨rfl, hb⟩; have HB0 := Lib.hid (HB.out.trans (hb.mono HB.out.size)); have V1 := var_keep HV1.out hb; have V2 := var_keep HV2.out hb; obtain ⟨⟨a0, a1, a2, a3⟩, -⟩ := cells4' V1; obtain ⟨⟨b0, b1, b2, b3⟩, -⟩ := cells4' V2; clear hb)
      | (go_at_call 40; with_reducible refine (HC.out _ HB0.out).mono ?_; rintro e w1 ⟨rfl, hb⟩; have HB1 := Lib.hid (HB0.out.trans (hb.mono HB0.out.size)); clear hb))
    go_ret
    exact ⟨by simp, HB0.out⟩
  rw [show decide (xslots = yslots) = true by (have h := k; simp at h ⊢; exact h)]
  go_enter Tryz.func16, Tryz.ntmps16
  go_wp2_with (first
      | (go_at_call 39; with_reducible refine (HT.out _ HB.out).mono ?_; rintro e w0 ⟨rfl, hb⟩; have HB0 := Lib.hid (HB.out.trans (hb.mono HB.out.size)); have V1 := var_keep HV1.out hb; have V2 := var_keep HV2.out hb; obtain ⟨⟨a0, a1, a2, a3⟩, -⟩ := cells4' V1; obtain ⟨⟨b0, b1, b2, b3⟩, -⟩ := cells4' V2; clear hb)
      | (go_at_call 40; with_reducible refine (HC.out _ HB0.out).mono ?_; rintro e w1 ⟨rfl, hb⟩; have HB1 := Lib.hid (HB0.out.trans (hb.mono HB0.out.size)); clear hb))
  go_ret
  exact ⟨by simp, HB1.out⟩
end Go.Proofs.YtadnfekogmjieaaGreatDoor
