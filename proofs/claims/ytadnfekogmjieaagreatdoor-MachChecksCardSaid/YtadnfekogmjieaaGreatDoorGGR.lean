/-
  Layer 51, the reference: right. (Printed by gen_mk10.py.)
  Layer 51, the reference: Check. (Printed by gen_mk10.py.)
  Layer 51, the laws: MachChecks. (Printed by gen_lw9.py.)
-/
import Derived.Test.YtadnfekogmjieaaGreatDoorGTj
import Derived.Test.YtadnfekogmjieaaGreatDoorGTk
import Derived.Test.YtadnfekogmjieaaGreatDoorGGN
import Derived.Test.YtadnfekogmjieaaGreatDoorGGV
import Derived.Test.YtadnfekogmjieaaGreatDoorGLWM
import Derived.Deep.Cut
import Derived.Deep.CutRange
set_option linter.unusedVariables false
set_option linter.unusedSimpArgs false
namespace Go.Proofs.YtadnfekogmjieaaGreatDoor
open Go.RowKit
open Mc (Pl Mi Mf Th Wt Im Md)
namespace Mc
def dRest (f : Mf) (regs : Int) (y : Mi) (i : Nat) : Bool := (((y.d.drop i).all (plOk f.slots regs) && onceGo (y.d.take i) (y.d.drop i)) && y.s.all (plOk f.slots regs)) && y.tos.all (toOk f.code.length)
def sRest (f : Mf) (regs : Int) (y : Mi) (i : Nat) : Bool := (y.s.drop i).all (plOk f.slots regs) && y.tos.all (toOk f.code.length)
def tRest (f : Mf) (y : Mi) (i : Nat) : Bool := (y.tos.drop i).all (toOk f.code.length)
section
variable {f : Mf} {regs : Int} {y : Mi} {i : Nat}
theorem dRest_bad (h : i < y.d.length) (h1 : plOk f.slots regs y.d[i] = false) : dRest f regs y i = false := by
  unfold dRest; rw [List.drop_eq_getElem_cons h, List.all_cons, h1]; rfl
theorem dRest_dup (h : i < y.d.length) (h1 : (y.d.take i).contains y.d[i] = true) : dRest f regs y i = false := by
  unfold dRest; rw [List.drop_eq_getElem_cons h, onceGo, h1]; simp
theorem dRest_next (h : i < y.d.length) (h1 : plOk f.slots regs y.d[i] = true) (h2 : (y.d.take i).contains y.d[i] = false) : dRest f regs y i = dRest f regs y (i + 1) := by
  unfold dRest; rw [List.drop_eq_getElem_cons h, List.all_cons, onceGo, h1, h2, ← List.take_succ_eq_append_getElem h]; rfl
theorem dRest_end : dRest f regs y y.d.length = sRest f regs y 0 := by
  unfold dRest sRest; rw [List.drop_length]; simp [onceGo]
theorem sRest_bad (h : i < y.s.length) (h1 : plOk f.slots regs y.s[i] = false) : sRest f regs y i = false := by
  unfold sRest; rw [List.drop_eq_getElem_cons h, List.all_cons, h1]; rfl
theorem sRest_next (h : i < y.s.length) (h1 : plOk f.slots regs y.s[i] = true) : sRest f regs y i = sRest f regs y (i + 1) := by
  unfold sRest; rw [List.drop_eq_getElem_cons h, List.all_cons, h1]; rfl
theorem sRest_end : sRest f regs y y.s.length = tRest f y 0 := by
  unfold sRest tRest; rw [List.drop_length]; simp
theorem toOk_iff (n : Nat) (z : Int) : toOk n z = true ↔ 0 ≤ z ∧ z < (n : Int) := by
  unfold toOk within; rw [Bool.and_eq_true, decide_eq_true_iff, decide_eq_true_iff]; omega
theorem tRest_bad (h : i < y.tos.length) (h1 : ¬ (0 ≤ y.tos[i] ∧ y.tos[i] < (f.code.length : Int))) : tRest f y i = false := by
  unfold tRest; rw [List.drop_eq_getElem_cons h, List.all_cons, Bool.eq_false_iff.2 (fun e => h1 ((toOk_iff _ _).1 e))]; rfl
theorem tRest_next (h : i < y.tos.length) (h1 : 0 ≤ y.tos[i] ∧ y.tos[i] < (f.code.length : Int)) : tRest f y i = tRest f y (i + 1) := by
  unfold tRest; rw [List.drop_eq_getElem_cons h, List.all_cons, (toOk_iff _ _).2 h1]; rfl
theorem tRest_end : tRest f y y.tos.length = true := by unfold tRest; rw [List.drop_length]; rfl
theorem right_rest (t : Th) : rrightI t y f regs = (coreR t y f.rs.length && dRest f regs y 0) := by unfold rrightI dRest; rw [List.drop_zero, List.take_zero]; rfl
end
end Mc
structure QR (S S1 : Nat → Prop) (w W : World) (m : Md) (x : MX) (mv fv : Array Value) (y : Mi) (D E T : Option Addr) (c1 c2 c3 : Nat) : Prop where
  bel : Below w.heap.size w W
  md : Var W w.heap.size mv 33
  mf : Var W (w.heap.size + 1) fv 39
  mi : Var W (w.heap.size + 2) (miV y D c1 E c2 T c3) 61
  ml : MdL S W m x
  rd : MiRd S1 W y D E T
section
variable {S S1 : Nat → Prop} {w W W' : World} {m : Md} {x : MX} {mv fv : Array Value} {y : Mi} {D E T : Option Addr} {c1 c2 c3 : Nat}
theorem QR.new (hm : MdL S w m x) (hr : MiRd S1 w y D E T) : QR S S1 w (((w.alloc (.cells mv 33)).alloc (.cells fv 39)).alloc (.cells (miV y D c1 E c2 T c3) 61)) m x mv fv y D E T c1 c2 c3 :=
  have hb := ((((Below.refl w.heap.size w).alloc (Nat.le_refl _) (.cells mv 33)).alloc (by simp) (.cells fv 39)).alloc (by simp; omega) (.cells (miV y D c1 E c2 T c3) 61))
  ⟨hb, ((Var.new w _ _).alloc _).alloc _, by have h := (Var.new (w.alloc (.cells mv 33)) fv 39).alloc (.cells (miV y D c1 E c2 T c3) 61); simpa using h, by have h := Var.new ((w.alloc (.cells mv 33)).alloc (.cells fv 39)) (miV y D c1 E c2 T c3) 61; simpa using h, hm.on hb, hr.on hb⟩
theorem QR.below (h : QR S S1 w W m x mv fv y D E T c1 c2 c3) (hb : Below W.heap.size W W') : QR S S1 w W' m x mv fv y D E T c1 c2 c3 := ⟨h.bel.trans (hb.mono h.bel.size), var_keep h.md hb, var_keep h.mf hb, var_keep h.mi hb, h.ml.on hb, h.rd.on hb⟩
end
set_option maxHeartbeats 16000000 in
set_option maxRecDepth 100000 in
theorem rright_any (m : Md) (hm : m.Few) (x : MX) (ho : x.One) (S S1 : Nat → Prop) (y : Mi) (hd : y.d.length ≤ 1000000) (hs : y.s.length ≤ 1000000) (ht : y.tos.length ≤ 1000000) (D : Option Addr) (c1 : Nat) (E : Option Addr) (c2 : Nat) (T : Option Addr) (c3 : Nat) (ra : InR y.a) (rb : InR y.b) (f : Mf) (P : Option Addr) (p1 : Nat) (R0 : Option Addr) (p2 : Nat) (C : Option Addr) (p3 : Nat) (hcl : f.code.length ≤ 1000000) (regs : Int) (w : World) (hl : MdL S w m x) (hy : MiRd S1 w y D E T) :
    Calls Tryz.prog 30 #[.agg (mdA m x), .agg (mfV f P p1 R0 p2 C p3), .agg (miV y D c1 E c2 T c3), .int .i64 regs] w fun e w' => e = .returned (.bool (Mc.rrightI (Mc.thOf m) y f regs)) ∧ Below w.heap.size w w' := by
  rw [Mc.right_rest]
  obtain ⟨R, hR⟩ : ∃ R, (Mc.coreR (Mc.thOf m) y f.rs.length && Mc.dRest f regs y 0) = R := ⟨_, rfl⟩
  rw [hR]
  unfold Mc.coreR at hR
  have HNe := Lib.hid (fun W (h : MdL S W m x) => rneeds_any m hm x ho S y D c1 E c2 T c3 ra rb f P p1 R0 p2 C p3 W h)
  have HUn := Lib.hid (fun W => runused_any y D c1 E c2 T c3 W)
  have HPl := Lib.hid (fun (p : Pl) W => rplace_any p regs f.slots W)
  obtain ⟨⟨nd, ns, ok⟩, en⟩ : ∃ q, Mc.need (Mc.thOf m) y f.rs.length = q := ⟨_, rfl⟩
  obtain ⟨un, eu⟩ : ∃ q, Mc.unusedR y = q := ⟨_, rfl⟩
  simp only [en, eu] at hR
  simp only [en] at HNe
  simp only [eu] at HUn
  obtain ⟨b1, l1⟩ : ∃ q, decide (y.d.length = nd) = q := ⟨_, rfl⟩
  obtain ⟨b2, l2⟩ : ∃ q, decide (y.s.length = ns) = q := ⟨_, rfl⟩
  have k1 : ((y.d.length : Int) != (nd : Int)) = !b1 := by rw [← l1, Bool.eq_iff_iff]; simp; omega
  have k2 : ((y.s.length : Int) != (ns : Int)) = !b2 := by rw [← l2, Bool.eq_iff_iff]; simp; omega
  rw [l1, l2] at hR
  unfold mdA nd3 miV mfV at HNe
  unfold miV at HUn
  have I0 := Lib.hid (QR.new (mv := mdA m x) (fv := mfV f P p1 R0 p2 C p3) (c1 := c1) (c2 := c2) (c3 := c3) hl hy)
  clear hl hy ho hm en eu l1 l2 ra rb
  go_enter Tryz.func30, Tryz.ntmps30
  go_upto_region 1 with fail
  refine at_code (F := fun W => Hid (QR S S1 w W m x (mdA m x) (mfV f P p1 R0 p2 C p3) y D E T c1 c2 c3)) I0 ?_
  clear I0
  intro W I
  obtain ⟨⟨g0, g1, g2, g3, g4, g5⟩, g6, g7, g8, g9, g10, g11⟩ := mdA_cells I.out.md
  obtain ⟨m0, m1, m2, m3, m4, m5, m6, m7, m8⟩ := miV_cells I.out.mi
  obtain ⟨y0, y1, y2, y3⟩ := mfV_cells I.out.mf
  go_upto_region 2 with (go_at_call 62; refine (HNe.out _ I.out.ml).mono ?_; rintro e w5 ⟨rfl, hb⟩; have I5 := Lib.hid (I.out.below hb))
  refine at_code (F := fun W => Hid (QR S S1 w W m x (mdA m x) (mfV f P p1 R0 p2 C p3) y D E T c1 c2 c3) ∧ Hid (Var W w5.heap.size #[.int .i64 (nd : Int), .int .i64 (ns : Int), .bool ok] 137)) ⟨Lib.hid (I5.out.below ((Below.refl _ _).alloc (Nat.le_refl _) _)), Lib.hid (Var.new _ _ _)⟩ ?_
  clear I I5 hb HNe g0 g1 g2 g3 g4 g5 g6 g7 g8 g9 g10 g11 m0 m1 m2 m3 m4 m5 m6 m7 m8 y0 y1 y2 y3
  obtain ⟨K9, hK⟩ : ∃ K, w5.heap.size = K := ⟨_, rfl⟩
  simp only [hK]
  clear hK
  rintro W ⟨I, V9⟩
  obtain ⟨⟨g0, g1, g2, g3, g4, g5⟩, g6, g7, g8, g9, g10, g11⟩ := mdA_cells I.out.md
  obtain ⟨m0, m1, m2, m3, m4, m5, m6, m7, m8⟩ := miV_cells I.out.mi
  obtain ⟨y0, y1, y2, y3⟩ := mfV_cells I.out.mf
  obtain ⟨n0, n1, n2, -⟩ := cells3f V9.out
  rcases ok with _ | _
  · skip
    go_wp2_with fail
    go_ret
    exact ⟨by rw [← hR]; simp, I.out.bel⟩
  rcases un with _ | _
  · skip
    go_wp2_with (go_at_call 63; refine (HUn.out _).mono ?_; rintro e w5 ⟨rfl, hb⟩; have I5 := Lib.hid (I.out.below hb); have V5 := Lib.hid (var_keep V9.out hb); clear hb g0 g1 g2 g3 g4 g5 g6 g7 g8 g9 g10 g11 m0 m1 m2 m3 m4 m5 m6 m7 m8 y0 y1 y2 y3 n0 n1 n2; obtain ⟨⟨g0, g1, g2, g3, g4, g5⟩, g6, g7, g8, g9, g10, g11⟩ := mdA_cells I5.out.md; obtain ⟨m0, m1, m2, m3, m4, m5, m6, m7, m8⟩ := miV_cells I5.out.mi; obtain ⟨y0, y1, y2, y3⟩ := mfV_cells I5.out.mf; obtain ⟨n0, n1, n2, -⟩ := cells3f V5.out)
    go_ret
    exact ⟨by rw [← hR]; simp, I5.out.bel⟩
  rcases b1 with _ | _
  · skip
    go_wp2_with (go_at_call 63; refine (HUn.out _).mono ?_; rintro e w5 ⟨rfl, hb⟩; have I5 := Lib.hid (I.out.below hb); have V5 := Lib.hid (var_keep V9.out hb); clear hb g0 g1 g2 g3 g4 g5 g6 g7 g8 g9 g10 g11 m0 m1 m2 m3 m4 m5 m6 m7 m8 y0 y1 y2 y3 n0 n1 n2; obtain ⟨⟨g0, g1, g2, g3, g4, g5⟩, g6, g7, g8, g9, g10, g11⟩ := mdA_cells I5.out.md; obtain ⟨m0, m1, m2, m3, m4, m5, m6, m7, m8⟩ := miV_cells I5.out.mi; obtain ⟨y0, y1, y2, y3⟩ := mfV_cells I5.out.mf; obtain ⟨n0, n1, n2, -⟩ := cells3f V5.out)
    go_ret
    exact ⟨by rw [← hR]; simp, I5.out.bel⟩
  rcases b2 with _ | _
  · skip
    go_wp2_with (go_at_call 63; refine (HUn.out _).mono ?_; rintro e w5 ⟨rfl, hb⟩; have I5 := Lib.hid (I.out.below hb); have V5 := Lib.hid (var_keep V9.out hb); clear hb g0 g1 g2 g3 g4 g5 g6 g7 g8 g9 g10 g11 m0 m1 m2 m3 m4 m5 m6 m7 m8 y0 y1 y2 y3 n0 n1 n2; obtain ⟨⟨g0, g1, g2, g3, g4, g5⟩, g6, g7, g8, g9, g10, g11⟩ := mdA_cells I5.out.md; obtain ⟨m0, m1, m2, m3, m4, m5, m6, m7, m8⟩ := miV_cells I5.out.mi; obtain ⟨y0, y1, y2, y3⟩ := mfV_cells I5.out.mf; obtain ⟨n0, n1, n2, -⟩ := cells3f V5.out)
    go_ret
    exact ⟨by rw [← hR]; simp, I5.out.bel⟩
  have HR : Hid (Mc.dRest f regs y 0 = R) := Lib.hid (by rw [← hR]; rfl)
  clear hR
  go_upto_region 4 with (go_at_call 63; refine (HUn.out _).mono ?_; rintro e w5 ⟨rfl, hb⟩; have I5 := Lib.hid (I.out.below hb); have V5 := Lib.hid (var_keep V9.out hb); clear hb g0 g1 g2 g3 g4 g5 g6 g7 g8 g9 g10 g11 m0 m1 m2 m3 m4 m5 m6 m7 m8 y0 y1 y2 y3 n0 n1 n2; obtain ⟨⟨g0, g1, g2, g3, g4, g5⟩, g6, g7, g8, g9, g10, g11⟩ := mdA_cells I5.out.md; obtain ⟨m0, m1, m2, m3, m4, m5, m6, m7, m8⟩ := miV_cells I5.out.mi; obtain ⟨y0, y1, y2, y3⟩ := mfV_cells I5.out.mf; obtain ⟨n0, n1, n2, -⟩ := cells3f V5.out)
  refine at_code (F := fun W => Hid (QR S S1 w W m x (mdA m x) (mfV f P p1 R0 p2 C p3) y D E T c1 c2 c3)) I5 ?_
  clear I V9 I5 V5 HUn k1 k2 g0 g1 g2 g3 g4 g5 g6 g7 g8 g9 g10 g11 m0 m1 m2 m3 m4 m5 m6 m7 m8 y0 y1 y2 y3 n0 n1 n2
  intro W I
  obtain ⟨⟨g0, g1, g2, g3, g4, g5⟩, g6, g7, g8, g9, g10, g11⟩ := mdA_cells I.out.md
  obtain ⟨m0, m1, m2, m3, m4, m5, m6, m7, m8⟩ := miV_cells I.out.mi
  obtain ⟨y0, y1, y2, y3⟩ := mfV_cells I.out.mf
  go_wp2_with fail
  go_loopw [10, 11] (fun iv kv wr => ∃ i : Nat, iv = .int .i64 (i : Int) ∧ i ≤ y.d.length ∧ Hid (Mc.dRest f regs y i = R) ∧ Hid (QR S S1 w wr m x (mdA m x) (mfV f P p1 R0 p2 C p3) y D E T c1 c2 c3)) (fun iv _ _ => y.d.length - (intOf iv).toNat)
  case atStart => exact ⟨0, rfl, by omega, HR, I⟩
  case round =>
    clear I HR g0 g1 g2 g3 g4 g5 g6 g7 g8 g9 g10 g11 m0 m1 m2 m3 m4 m5 m6 m7 m8 y0 y1 y2 y3
    obtain ⟨i, rfl, hi, HR, I⟩ := hrel
    obtain ⟨⟨g0, g1, g2, g3, g4, g5⟩, g6, g7, g8, g9, g10, g11⟩ := mdA_cells I.out.md
    obtain ⟨m0, m1, m2, m3, m4, m5, m6, m7, m8⟩ := miV_cells I.out.mi
    obtain ⟨y0, y1, y2, y3⟩ := mfV_cells I.out.mf
    by_cases hia : i < y.d.length
    · skip
      have x0 : (i : Int) < (y.d.length : Int) := by omega
      have x1 : (0 : Int) ≤ (i : Int) := by omega
      obtain ⟨g, o, hA, -, -, f0, f1⟩ := I.out.rd.d.get hia
      subst hA
      have HL := Lib.hid I.out.rd.d
      have HB1 := Lib.hid (fun h => Mc.dRest_bad (f := f) (regs := regs) hia h)
      have HB2 := Lib.hid (fun h => Mc.dRest_dup (f := f) (regs := regs) hia h)
      have HB3 := Lib.hid (fun h1 h2 => Mc.dRest_next (f := f) (regs := regs) hia h1 h2)
      obtain ⟨p, hp⟩ : ∃ p, y.d[i] = p := ⟨_, rfl⟩
      simp only [hp] at f0 f1 HB1 HB2 HB3
      have hpi := Lib.hid hp
      clear hp
      obtain ⟨sl, z⟩ := p
      dsimp only at f0 f1
      obtain ⟨q, hq⟩ : ∃ q, Mc.plOk f.slots regs ⟨sl, z⟩ = q := ⟨_, rfl⟩
      simp only [hq] at HB1 HB3
      go_wp2_with fail
      refine wp_region_held_drew (S := (fun W' => W'.cell? ⟨w.heap.size + 2, 5, none⟩ = some (.slice (some ⟨g, o, none⟩) y.d.length c1) ∧ W'.cell? ⟨w.heap.size + 1, 2, none⟩ = some (.int .i64 f.slots) ∧ W'.cell? ⟨g, o + i * 2, none⟩ = some (.bool sl) ∧ W'.cell? ⟨g, o + i * 2 + 1, none⟩ = some (.int .i64 z))) (by kernel_rfl) ?_ (fun hHeld0 => ?_)
      · exact ⟨m5, y2, f0, f1⟩
      refine tj (i := 0) rfl ?_; (try simp only [zS, zN, zT, zC, zZ])
      refine tj (i := 1) rfl ?_; (try simp only [zS, zN, zT, zC, zZ])
      refine tj (i := 2) rfl ?_; (try simp only [zS, zN, zT, zC, zZ])
      refine tj (i := 3) rfl ?_; (try simp only [zS, zN, zT, zC, zZ])
      refine tj (i := 4) rfl ?_; (try simp only [zS, zN, zT, zC, zZ])
      refine tj (i := 5) rfl ?_; (try simp only [zS, zN, zT, zC, zZ])
      refine tj (i := 6) rfl ?_; (try simp only [zS, zN, zT, zC, zZ])
      refine tj (i := 7) rfl ?_; (try simp only [zS, zN, zT, zC, zZ])
      refine wpAnyH_ready (rs := [8]) (by kernel_rfl) (by simp) ?_
      refine AllReadyH.cons rfl (fun K hK => ?_) AllReadyH.nil
      go_simp
      (refine (HPl.out ⟨sl, z⟩ (World.drew wr)).mono ?_; rintro e w6 ⟨rfl, hb⟩; have BC := (below_drewN wr 1).trans (hb.mono (Nat.le_refl _)); have I6 := Lib.hid (I.out.below BC); have kp := Below.keep BC (fun _ => True))
      (try dsimp only)
      refine hK.out _ _ ?_ (fun hHeld1 => ?_)
      · (try dsimp only); (repeat' refine And.intro ?_ ?_) <;> exact kp _ _ trivial (by assumption)
      clear hK K hHeld0
      (try simp only [zS, zN, zT, zC, zZ])
      refine tj (i := 9) rfl ?_; (try simp only [zS, zN, zT, zC, zZ])
      refine wpAnyH_done (by kernel_rfl) ?_ _
      (try dsimp only)
      simp only [hq]
      clear hq
      rcases q with _ | _
      · have HX : R = false := (HR.out.symm).trans (HB1.out rfl)
        repeat (first | go_values | go_skip | go_guarded | go_step | go_upon)
        go_wp2_with fail
        go_ret
        exact ⟨by first | rfl | (rw [HX]; rfl), I6.out.bel⟩
      clear HB1 g0 g1 g2 g3 g4 g5 g6 g7 g8 g9 g10 g11 m0 m1 m2 m3 m4 m5 m6 m7 m8 y0 y1 y2 y3 f0 f1 hb BC kp I
      repeat (first | go_values | go_skip | go_guarded | go_step | go_upon)
      obtain ⟨qc, hqc⟩ : ∃ q, (y.d.take i).contains ⟨sl, z⟩ = q := ⟨_, rfl⟩
      simp only [hqc] at HB2 HB3
      have HQ : Hid (((y.d.take i).drop 0).contains ⟨sl, z⟩ = qc) := Lib.hid hqc
      have htl : (y.d.take i).length = i := by rw [List.length_take]; omega
      clear hqc
      go_wp2_with fail
      go_loopw [11] (fun kv wr => ∃ k : Nat, kv = .int .i64 (k : Int) ∧ k ≤ i ∧ Hid (((y.d.take i).drop k).contains ⟨sl, z⟩ = qc) ∧ Hid (QR S S1 w wr m x (mdA m x) (mfV f P p1 R0 p2 C p3) y (some ⟨g, o, none⟩) E T c1 c2 c3)) (fun kv _ => i - (intOf kv).toNat)
      case atStart => exact ⟨0, rfl, by omega, HQ, I6⟩
      case round =>
        clear I6 HQ
        obtain ⟨k, rfl, hk, HQ, I6⟩ := hrel
        obtain ⟨⟨g0, g1, g2, g3, g4, g5⟩, g6, g7, g8, g9, g10, g11⟩ := mdA_cells I6.out.md
        obtain ⟨m0, m1, m2, m3, m4, m5, m6, m7, m8⟩ := miV_cells I6.out.mi
        obtain ⟨y0, y1, y2, y3⟩ := mfV_cells I6.out.mf
        by_cases hka : k < i
        · skip
          have z0_ : (k : Int) < (i : Int) := by omega
          have z1_ : (0 : Int) ≤ (k : Int) := by omega
          have z2_ : (k : Int) < (y.d.length : Int) := by omega
          have hkd : k < y.d.length := by omega
          have hkt : k < (y.d.take i).length := by omega
          obtain ⟨g2, o2, hA2, -, -, t0, t1⟩ := I6.out.rd.d.get hkd
          cases hA2
          obtain ⟨g3, o3, hA3, -, -, f0, f1⟩ := I6.out.rd.d.get hia
          cases hA3
          have hcn := HQ.out
          rw [List.drop_eq_getElem_cons hkt, List.contains_cons, List.getElem_take] at hcn
          obtain ⟨t, ht_⟩ : ∃ t, y.d[k] = t := ⟨_, rfl⟩
          rw [ht_] at hcn t0 t1
          rw [hpi.out] at f0 f1
          dsimp only at f0 f1
          clear ht_ HQ
          by_cases e1 : t.slot = sl
          case neg =>
            have hne : ((⟨sl, z⟩ : Pl) == t) = false := by rw [beq_eq_false_iff_ne]; exact fun e => e1 (by rw [← e])
            rw [hne, Bool.false_or] at hcn
            have HD := Lib.hid hcn
            clear hcn hne
            go_wp2
            go_region
            go_wp2
            go_roundw
            case rel => exact ⟨k + 1, by go_num, by omega, HD, Lib.hid (I6.out.below (below_drewN _ 1))⟩
            case measure => simp [intOf] <;> omega
          by_cases e2 : t.n = z
          case neg =>
            have hne : ((⟨sl, z⟩ : Pl) == t) = false := by rw [beq_eq_false_iff_ne]; exact fun e => e2 (by rw [← e])
            rw [hne, Bool.false_or] at hcn
            have HD := Lib.hid hcn
            clear hcn hne
            go_wp2
            go_region
            go_wp2
            go_roundw
            case rel => exact ⟨k + 1, by go_num, by omega, HD, Lib.hid (I6.out.below (below_drewN _ 1))⟩
            case measure => simp [intOf] <;> omega
          have heq : ((⟨sl, z⟩ : Pl) == t) = true := by
            rw [beq_iff_eq]
            obtain ⟨t1_, t2_⟩ := t
            dsimp only at e1 e2
            rw [e1, e2]
          rw [heq, Bool.true_or] at hcn
          have HX : R = false := (HR.out.symm).trans (HB2.out hcn.symm)
          clear hcn heq
          go_wp2
          go_region
          go_wp2
          go_ret
          exact ⟨by first | rfl | (rw [HX]; rfl), (I6.out.below (below_drewN _ 1)).bel⟩
        · obtain rfl : k = i := by omega
          have z0_ : ¬ (k : Int) < (k : Int) := by omega
          have hcn := HQ.out
          rw [List.drop_eq_nil_of_le (by omega)] at hcn
          have hqf : qc = false := by rw [← hcn]; rfl
          have HX := Lib.hid ((HB3.out (by trivial) hqf).symm.trans HR.out)
          clear hcn hqf HQ HB2 HB3 HR
          go_wp2_with fail
          go_roundw
          case rel => exact ⟨k + 1, by go_num, by omega, HX, I6⟩
          case measure => simp [intOf] <;> omega
    · skip
      obtain rfl : i = y.d.length := by omega
      have x0 : ¬ (y.d.length : Int) < (y.d.length : Int) := by omega
      have HR2 : Hid (Mc.sRest f regs y 0 = R) := Lib.hid (Mc.dRest_end.symm.trans HR.out)
      clear HR
      go_wp2_with fail
      go_loopw [12] (fun iv wr => ∃ i : Nat, iv = .int .i64 (i : Int) ∧ i ≤ y.s.length ∧ Hid (Mc.sRest f regs y i = R) ∧ Hid (QR S S1 w wr m x (mdA m x) (mfV f P p1 R0 p2 C p3) y D E T c1 c2 c3)) (fun iv _ => y.s.length - (intOf iv).toNat)
      case atStart => exact ⟨0, rfl, by omega, HR2, I⟩
      case round =>
        clear I HR2 x0 hia hi g0 g1 g2 g3 g4 g5 g6 g7 g8 g9 g10 g11 m0 m1 m2 m3 m4 m5 m6 m7 m8 y0 y1 y2 y3
        obtain ⟨i, rfl, hi, HR, I⟩ := hrel
        obtain ⟨⟨g0, g1, g2, g3, g4, g5⟩, g6, g7, g8, g9, g10, g11⟩ := mdA_cells I.out.md
        obtain ⟨m0, m1, m2, m3, m4, m5, m6, m7, m8⟩ := miV_cells I.out.mi
        obtain ⟨y0, y1, y2, y3⟩ := mfV_cells I.out.mf
        by_cases hia : i < y.s.length
        · skip
          have x0 : (i : Int) < (y.s.length : Int) := by omega
          have x1 : (0 : Int) ≤ (i : Int) := by omega
          obtain ⟨g, o, hA, -, -, f0, f1⟩ := I.out.rd.s.get hia
          subst hA
          have HB1 := Lib.hid (fun h => Mc.sRest_bad (f := f) (regs := regs) hia h)
          have HB3 := Lib.hid (fun h1 => Mc.sRest_next (f := f) (regs := regs) hia h1)
          obtain ⟨p, hp⟩ : ∃ p, y.s[i] = p := ⟨_, rfl⟩
          simp only [hp] at f0 f1 HB1 HB3
          clear hp
          obtain ⟨sl, z⟩ := p
          dsimp only at f0 f1
          obtain ⟨q, hq⟩ : ∃ q, Mc.plOk f.slots regs ⟨sl, z⟩ = q := ⟨_, rfl⟩
          simp only [hq] at HB1 HB3
          go_wp2_with fail
          refine wp_region_held_drew (S := (fun W' => W'.cell? ⟨w.heap.size + 2, 6, none⟩ = some (.slice (some ⟨g, o, none⟩) y.s.length c2) ∧ W'.cell? ⟨w.heap.size + 1, 2, none⟩ = some (.int .i64 f.slots) ∧ W'.cell? ⟨g, o + i * 2, none⟩ = some (.bool sl) ∧ W'.cell? ⟨g, o + i * 2 + 1, none⟩ = some (.int .i64 z))) (by kernel_rfl) ?_ (fun hHeld0 => ?_)
          · exact ⟨m6, y2, f0, f1⟩
          refine tj (i := 0) rfl ?_; (try simp only [zS, zN, zT, zC, zZ])
          refine tj (i := 1) rfl ?_; (try simp only [zS, zN, zT, zC, zZ])
          refine tj (i := 2) rfl ?_; (try simp only [zS, zN, zT, zC, zZ])
          refine tj (i := 3) rfl ?_; (try simp only [zS, zN, zT, zC, zZ])
          refine tj (i := 4) rfl ?_; (try simp only [zS, zN, zT, zC, zZ])
          refine tj (i := 5) rfl ?_; (try simp only [zS, zN, zT, zC, zZ])
          refine tj (i := 6) rfl ?_; (try simp only [zS, zN, zT, zC, zZ])
          refine tj (i := 7) rfl ?_; (try simp only [zS, zN, zT, zC, zZ])
          refine wpAnyH_ready (rs := [8]) (by kernel_rfl) (by simp) ?_
          refine AllReadyH.cons rfl (fun K hK => ?_) AllReadyH.nil
          go_simp
          (refine (HPl.out ⟨sl, z⟩ (World.drew wr)).mono ?_; rintro e w6 ⟨rfl, hb⟩; have BC := (below_drewN wr 1).trans (hb.mono (Nat.le_refl _)); have I6 := Lib.hid (I.out.below BC); have kp := Below.keep BC (fun _ => True))
          (try dsimp only)
          refine hK.out _ _ ?_ (fun hHeld1 => ?_)
          · (try dsimp only); (repeat' refine And.intro ?_ ?_) <;> exact kp _ _ trivial (by assumption)
          clear hK K hHeld0
          (try simp only [zS, zN, zT, zC, zZ])
          refine tj (i := 9) rfl ?_; (try simp only [zS, zN, zT, zC, zZ])
          refine wpAnyH_done (by kernel_rfl) ?_ _
          (try dsimp only)
          simp only [hq]
          clear hq
          rcases q with _ | _
          · have HX : R = false := (HR.out.symm).trans (HB1.out rfl)
            repeat (first | go_values | go_skip | go_guarded | go_step | go_upon)
            go_wp2_with fail
            go_ret
            exact ⟨by first | rfl | (rw [HX]; rfl), I6.out.bel⟩
          have HX := Lib.hid ((HB3.out rfl).symm.trans HR.out)
          clear HB1 HB3 HR
          repeat (first | go_values | go_skip | go_guarded | go_step | go_upon)
          go_wp2_with fail
          go_roundw
          case rel => exact ⟨i + 1, by go_num, by omega, HX, I6⟩
          case measure => simp [intOf] <;> omega
        · skip
          obtain rfl : i = y.s.length := by omega
          have x0 : ¬ (y.s.length : Int) < (y.s.length : Int) := by omega
          have HR2 : Hid (Mc.tRest f y 0 = R) := Lib.hid (Mc.sRest_end.symm.trans HR.out)
          clear HR
          go_wp2_with fail
          go_loopw [13] (fun iv wr => ∃ i : Nat, iv = .int .i64 (i : Int) ∧ i ≤ y.tos.length ∧ Hid (Mc.tRest f y i = R) ∧ Hid (QR S S1 w wr m x (mdA m x) (mfV f P p1 R0 p2 C p3) y D E T c1 c2 c3)) (fun iv _ => y.tos.length - (intOf iv).toNat)
          case atStart => exact ⟨0, rfl, by omega, HR2, I⟩
          case round =>
            clear I HR2 x0 hia hi g0 g1 g2 g3 g4 g5 g6 g7 g8 g9 g10 g11 m0 m1 m2 m3 m4 m5 m6 m7 m8 y0 y1 y2 y3
            obtain ⟨i, rfl, hi, HR, I⟩ := hrel
            obtain ⟨⟨g0, g1, g2, g3, g4, g5⟩, g6, g7, g8, g9, g10, g11⟩ := mdA_cells I.out.md
            obtain ⟨m0, m1, m2, m3, m4, m5, m6, m7, m8⟩ := miV_cells I.out.mi
            obtain ⟨y0, y1, y2, y3⟩ := mfV_cells I.out.mf
            by_cases hia : i < y.tos.length
            · skip
              have x0 : (i : Int) < (y.tos.length : Int) := by omega
              have x1 : (0 : Int) ≤ (i : Int) := by omega
              obtain ⟨g, o, hA, -, -, f0⟩ := I.out.rd.t.get hia
              subst hA
              rw [Nat.mul_one] at f0
              replace f0 : wr.cell? ⟨g, o + i, none⟩ = some (.int .i64 y.tos[i]) := f0
              have HB1 := Lib.hid (fun h => Mc.tRest_bad (f := f) hia h)
              have HB3 := Lib.hid (fun h1 => Mc.tRest_next (f := f) hia h1)
              generalize y.tos[i] = z at f0 HB1 HB3
              have I6 := Lib.hid (I.out.below (below_drewN wr 1))
              go_wp2_with fail
              by_cases h0 : z < 0
              · have HX : R = false := (HR.out.symm).trans (HB1.out (by omega))
                refine wp_region_held_drew (S := (fun W' => W'.cell? ⟨w.heap.size + 2, 7, none⟩ = some (.slice (some ⟨g, o, none⟩) y.tos.length c3) ∧ W'.cell? ⟨w.heap.size + 1, 3, none⟩ = some (.slice C f.code.length p3) ∧ W'.cell? ⟨g, o + i, none⟩ = some (.int .i64 z))) (by kernel_rfl) ?_ (fun hHeld0 => ?_)
                · exact ⟨m7, y3, f0⟩
                refine tj (i := 0) rfl ?_; (try simp only [zS, zN, zT, zC, zZ])
                refine tj (i := 1) rfl ?_; (try simp only [zS, zN, zT, zC, zZ])
                refine tj (i := 2) rfl ?_; (try simp only [zS, zN, zT, zC, zZ])
                refine tj (i := 3) rfl ?_; (try simp only [zS, zN, zT, zC, zZ])
                refine tj (i := 4) rfl ?_; (try simp only [zS, zN, zT, zC, zZ])
                refine tj (i := 5) (v := .bool true) rfl ?_ (hy := by intro w hSw; (try dsimp only at hSw); go_simp; (try first | rfl | (simp [h0]) | omega)); (try simp only [zS, zN, zT, zC, zZ])
                refine tj (i := 6) rfl ?_; (try simp only [zS, zN, zT, zC, zZ])
                refine tjN (i := 7) rfl ?_; (try simp only [zS, zN, zT, zC, zZ])
                refine tjN (i := 8) rfl ?_; (try simp only [zS, zN, zT, zC, zZ])
                refine tjN (i := 9) rfl ?_; (try simp only [zS, zN, zT, zC, zZ])
                refine tjN (i := 10) rfl ?_; (try simp only [zS, zN, zT, zC, zZ])
                refine tjN (i := 11) rfl ?_; (try simp only [zS, zN, zT, zC, zZ])
                refine tjN (i := 12) rfl ?_; (try simp only [zS, zN, zT, zC, zZ])
                refine tjN (i := 13) rfl ?_; (try simp only [zS, zN, zT, zC, zZ])
                refine tjN (i := 14) rfl ?_; (try simp only [zS, zN, zT, zC, zZ])
                refine tjN (i := 15) rfl ?_; (try simp only [zS, zN, zT, zC, zZ])
                refine tj (i := 16) rfl ?_; (try simp only [zS, zN, zT, zC, zZ])
                refine wpAnyH_done (by kernel_rfl) ?_ _
                (try dsimp only)
                repeat (first | go_values | go_skip | go_guarded | go_step | go_upon)
                go_wp2_with fail
                go_ret
                exact ⟨by first | rfl | (rw [HX]; rfl), I6.out.bel⟩
              by_cases h1 : (f.code.length : Int) ≤ z
              · have HX : R = false := (HR.out.symm).trans (HB1.out (by omega))
                refine wp_region_held_drew (S := (fun W' => W'.cell? ⟨w.heap.size + 2, 7, none⟩ = some (.slice (some ⟨g, o, none⟩) y.tos.length c3) ∧ W'.cell? ⟨w.heap.size + 1, 3, none⟩ = some (.slice C f.code.length p3) ∧ W'.cell? ⟨g, o + i, none⟩ = some (.int .i64 z))) (by kernel_rfl) ?_ (fun hHeld0 => ?_)
                · exact ⟨m7, y3, f0⟩
                refine tj (i := 0) rfl ?_; (try simp only [zS, zN, zT, zC, zZ])
                refine tj (i := 1) rfl ?_; (try simp only [zS, zN, zT, zC, zZ])
                refine tj (i := 2) rfl ?_; (try simp only [zS, zN, zT, zC, zZ])
                refine tj (i := 3) rfl ?_; (try simp only [zS, zN, zT, zC, zZ])
                refine tj (i := 4) rfl ?_; (try simp only [zS, zN, zT, zC, zZ])
                refine tj (i := 5) (v := .bool false) rfl ?_ (hy := by intro w hSw; (try dsimp only at hSw); go_simp; (try first | rfl | (simp [h0]) | omega)); (try simp only [zS, zN, zT, zC, zZ])
                refine tj (i := 6) rfl ?_; (try simp only [zS, zN, zT, zC, zZ])
                refine tj (i := 7) rfl ?_; (try simp only [zS, zN, zT, zC, zZ])
                refine tj (i := 8) rfl ?_; (try simp only [zS, zN, zT, zC, zZ])
                refine tj (i := 9) rfl ?_; (try simp only [zS, zN, zT, zC, zZ])
                refine tj (i := 10) rfl ?_; (try simp only [zS, zN, zT, zC, zZ])
                refine tj (i := 11) rfl ?_; (try simp only [zS, zN, zT, zC, zZ])
                refine tj (i := 12) rfl ?_; (try simp only [zS, zN, zT, zC, zZ])
                refine tj (i := 13) rfl ?_; (try simp only [zS, zN, zT, zC, zZ])
                refine tj (i := 14) rfl ?_; (try simp only [zS, zN, zT, zC, zZ])
                refine tj (i := 15) (v := .bool true) rfl ?_ (hy := by intro w hSw; (try dsimp only at hSw); go_simp; (try first | rfl | (simp [h1]) | omega)); (try simp only [zS, zN, zT, zC, zZ])
                refine tj (i := 16) rfl ?_; (try simp only [zS, zN, zT, zC, zZ])
                refine wpAnyH_done (by kernel_rfl) ?_ _
                (try dsimp only)
                repeat (first | go_values | go_skip | go_guarded | go_step | go_upon)
                go_wp2_with fail
                go_ret
                exact ⟨by first | rfl | (rw [HX]; rfl), I6.out.bel⟩
              have HX := Lib.hid ((HB3.out (by omega)).symm.trans HR.out)
              clear HB1 HB3 HR
              refine wp_region_held_drew (S := (fun W' => W'.cell? ⟨w.heap.size + 2, 7, none⟩ = some (.slice (some ⟨g, o, none⟩) y.tos.length c3) ∧ W'.cell? ⟨w.heap.size + 1, 3, none⟩ = some (.slice C f.code.length p3) ∧ W'.cell? ⟨g, o + i, none⟩ = some (.int .i64 z))) (by kernel_rfl) ?_ (fun hHeld0 => ?_)
              · exact ⟨m7, y3, f0⟩
              refine tj (i := 0) rfl ?_; (try simp only [zS, zN, zT, zC, zZ])
              refine tj (i := 1) rfl ?_; (try simp only [zS, zN, zT, zC, zZ])
              refine tj (i := 2) rfl ?_; (try simp only [zS, zN, zT, zC, zZ])
              refine tj (i := 3) rfl ?_; (try simp only [zS, zN, zT, zC, zZ])
              refine tj (i := 4) rfl ?_; (try simp only [zS, zN, zT, zC, zZ])
              refine tj (i := 5) (v := .bool false) rfl ?_ (hy := by intro w hSw; (try dsimp only at hSw); go_simp; (try first | rfl | (simp [h0]) | omega)); (try simp only [zS, zN, zT, zC, zZ])
              refine tj (i := 6) rfl ?_; (try simp only [zS, zN, zT, zC, zZ])
              refine tj (i := 7) rfl ?_; (try simp only [zS, zN, zT, zC, zZ])
              refine tj (i := 8) rfl ?_; (try simp only [zS, zN, zT, zC, zZ])
              refine tj (i := 9) rfl ?_; (try simp only [zS, zN, zT, zC, zZ])
              refine tj (i := 10) rfl ?_; (try simp only [zS, zN, zT, zC, zZ])
              refine tj (i := 11) rfl ?_; (try simp only [zS, zN, zT, zC, zZ])
              refine tj (i := 12) rfl ?_; (try simp only [zS, zN, zT, zC, zZ])
              refine tj (i := 13) rfl ?_; (try simp only [zS, zN, zT, zC, zZ])
              refine tj (i := 14) rfl ?_; (try simp only [zS, zN, zT, zC, zZ])
              refine tj (i := 15) (v := .bool false) rfl ?_ (hy := by intro w hSw; (try dsimp only at hSw); go_simp; (try first | rfl | (simp [h1]) | omega)); (try simp only [zS, zN, zT, zC, zZ])
              refine tj (i := 16) rfl ?_; (try simp only [zS, zN, zT, zC, zZ])
              refine wpAnyH_done (by kernel_rfl) ?_ _
              (try dsimp only)
              repeat (first | go_values | go_skip | go_guarded | go_step | go_upon)
              go_wp2_with fail
              go_roundw
              case rel => exact ⟨i + 1, by go_num, by omega, HX, I6⟩
              case measure => simp [intOf] <;> omega
            · obtain rfl : i = y.tos.length := by omega
              have x0 : ¬ (y.tos.length : Int) < (y.tos.length : Int) := by omega
              have HX : R = true := (HR.out.symm).trans Mc.tRest_end
              clear HR
              go_wp2_with fail
              go_ret
              exact ⟨by first | rfl | (rw [HX]; rfl), I.out.bel⟩
end Go.Proofs.YtadnfekogmjieaaGreatDoor
set_option linter.unusedVariables false
set_option linter.unusedSimpArgs false
namespace Go.Proofs.YtadnfekogmjieaaGreatDoor
open Go.RowKit
open Mc (Pl Mi Mf Th Wt Im Md)
set_option maxHeartbeats 16000000 in
set_option maxRecDepth 100000 in
theorem rcheck_any (m : Md) (hm : m.Few) (x : MX) (ho : x.One) (f : Mf) (hok : f.Ok) (P : Option Addr) (p1 : Nat) (R0 : Option Addr) (p2 : Nat) (C : Option Addr) (p3 : Nat) (regs : Int) (S0 S1 : Nat → Prop) (w : World) (hl : MdL S0 w m x) (hf : MfAt S1 w f P R0 C) :
    Calls Tryz.prog 13 #[.agg (mdA m x), .agg (mfV f P p1 R0 p2 C p3), .int .i64 regs] w fun e w' => e = .returned (.tuple #[.int .i64 (Mc.check (Mc.thOf m) f regs).1, .int .i64 (Mc.check (Mc.thOf m) f regs).2]) ∧ Below w.heap.size w w' := by
  obtain ⟨Z, hZ⟩ : ∃ Z, Mc.check (Mc.thOf m) f regs = Z := ⟨_, rfl⟩
  rw [hZ]
  have HC0 := Lib.hid (C12.new w (mdA m x) (mfV f P p1 R0 p2 C p3))
  have HR := Lib.hid (fun W (hb : Below w.heap.size w W) => refRight_any P R0 p1 p2 f.ps f.rs W (RdZ.on hf.ps hb).rds.rdI (RdZ.on hf.rs hb).rds.rdI hok.ps hok.rs)
  have hcl : f.code.length ≤ 1000000 := by have := hok.code.1; omega
  have HRi := Lib.hid (fun (i : Nat) (hi : i < f.code.length) D c1 E c2 T c3 W (hb : Below w.heap.size w W) (h : MiRd S1 W f.code[i] D E T) => rright_any m hm x ho S0 S1 f.code[i] (by have := (hok.code.2 _ (List.getElem_mem hi)).d.1; omega) (by have := (hok.code.2 _ (List.getElem_mem hi)).s.1; omega) (by have := (hok.code.2 _ (List.getElem_mem hi)).tos.1; omega) D c1 E c2 T c3 (hok.code.2 _ (List.getElem_mem hi)).a (hok.code.2 _ (List.getElem_mem hi)).b f P p1 R0 p2 C p3 hcl regs W (hl.on hb) h)
  have HF := Lib.hid hf
  simp only [Mc.right_same] at HRi
  clear hl hf ho hm hok
  by_cases r0 : regs < 0
  · have hz : Z = (0, 31) := by rw [← hZ]; exact Mc.check_over _ _ (by unfold Mc.within; simp; omega)
    subst hz
    clear HR HRi HF
    clear hZ
    go_enter Tryz.func13, Tryz.ntmps13
    go_upto_region 1 with fail
    refine at_code (F := fun W => Hid (C12 w W (mdA m x) (mfV f P p1 R0 p2 C p3))) HC0 ?_
    clear HC0
    intro W S
    obtain ⟨y0, y1, y2, y3⟩ := mfV_cells S.out.mf
    go_wp2_with fail
    go_ret2
    exact ⟨rfl, S.out.bel⟩
  by_cases r1 : 16 < regs
  · have hz : Z = (0, 31) := by rw [← hZ]; exact Mc.check_over _ _ (by unfold Mc.within; simp; omega)
    subst hz
    clear HR HRi HF
    clear hZ
    go_enter Tryz.func13, Tryz.ntmps13
    go_upto_region 1 with fail
    refine at_code (F := fun W => Hid (C12 w W (mdA m x) (mfV f P p1 R0 p2 C p3))) HC0 ?_
    clear HC0
    intro W S
    obtain ⟨y0, y1, y2, y3⟩ := mfV_cells S.out.mf
    go_wp2_with fail
    go_ret2
    exact ⟨rfl, S.out.bel⟩
  have hw : Mc.within regs 16 = true := by unfold Mc.within; simp; omega
  obtain ⟨rt, hrt⟩ : ∃ q, (Ty.right f.ps && Ty.right f.rs) = q := ⟨_, rfl⟩
  rw [hrt] at HR
  rcases rt with _ | _
  · skip
    have hz : Z = (0, 30) := by rw [← hZ]; exact Mc.check_no hw (.inl hrt)
    subst hz
    clear HRi HF
    clear hZ
    go_enter Tryz.func13, Tryz.ntmps13
    go_upto_region 1 with fail
    refine at_code (F := fun W => Hid (C12 w W (mdA m x) (mfV f P p1 R0 p2 C p3))) HC0 ?_
    clear HC0
    intro W S
    obtain ⟨y0, y1, y2, y3⟩ := mfV_cells S.out.mf
    go_wp2_with (go_at_call 29; refine (HR.out _ S.out.bel).mono ?_; rintro e w2 ⟨rfl, hb⟩; have S2 := Lib.hid (S.out.below hb); clear hb y0 y1 y2 y3; obtain ⟨y0, y1, y2, y3⟩ := mfV_cells S2.out.mf)
    go_ret2
    exact ⟨rfl, S2.out.bel⟩
  by_cases h1 : f.slots < (f.ps.length : Int)
  · skip
    have hz : Z = (0, 30) := by rw [← hZ]; exact Mc.check_no hw (.inr (.inl h1))
    subst hz
    clear HRi HF
    clear hZ
    go_enter Tryz.func13, Tryz.ntmps13
    go_upto_region 1 with fail
    refine at_code (F := fun W => Hid (C12 w W (mdA m x) (mfV f P p1 R0 p2 C p3))) HC0 ?_
    clear HC0
    intro W S
    obtain ⟨y0, y1, y2, y3⟩ := mfV_cells S.out.mf
    go_wp2_with (go_at_call 29; refine (HR.out _ S.out.bel).mono ?_; rintro e w2 ⟨rfl, hb⟩; have S2 := Lib.hid (S.out.below hb); clear hb y0 y1 y2 y3; obtain ⟨y0, y1, y2, y3⟩ := mfV_cells S2.out.mf)
    go_ret2
    exact ⟨rfl, S2.out.bel⟩
  by_cases h2 : (65536 : Int) < f.slots
  · skip
    have hz : Z = (0, 30) := by rw [← hZ]; exact Mc.check_no hw (.inr (.inr (.inl h2)))
    subst hz
    clear HRi HF
    clear hZ
    go_enter Tryz.func13, Tryz.ntmps13
    go_upto_region 1 with fail
    refine at_code (F := fun W => Hid (C12 w W (mdA m x) (mfV f P p1 R0 p2 C p3))) HC0 ?_
    clear HC0
    intro W S
    obtain ⟨y0, y1, y2, y3⟩ := mfV_cells S.out.mf
    go_wp2_with (go_at_call 29; refine (HR.out _ S.out.bel).mono ?_; rintro e w2 ⟨rfl, hb⟩; have S2 := Lib.hid (S.out.below hb); clear hb y0 y1 y2 y3; obtain ⟨y0, y1, y2, y3⟩ := mfV_cells S2.out.mf)
    go_ret2
    exact ⟨rfl, S2.out.bel⟩
  rcases hk : f.code.length with _ | k
  · have q0 : ((f.code.length : Int) == 0) = true := by rw [hk]; rfl
    have hz : Z = (0, 30) := by rw [← hZ]; exact Mc.check_no hw (.inr (.inr (.inr (List.eq_nil_of_length_eq_zero hk))))
    subst hz
    clear HRi HF
    clear hZ
    go_enter Tryz.func13, Tryz.ntmps13
    go_upto_region 1 with fail
    refine at_code (F := fun W => Hid (C12 w W (mdA m x) (mfV f P p1 R0 p2 C p3))) HC0 ?_
    clear HC0
    intro W S
    obtain ⟨y0, y1, y2, y3⟩ := mfV_cells S.out.mf
    go_wp2_with (go_at_call 29; refine (HR.out _ S.out.bel).mono ?_; rintro e w2 ⟨rfl, hb⟩; have S2 := Lib.hid (S.out.below hb); clear hb y0 y1 y2 y3; obtain ⟨y0, y1, y2, y3⟩ := mfV_cells S2.out.mf)
    go_ret2
    exact ⟨rfl, S2.out.bel⟩
  have hne : f.code ≠ [] := by intro e; rw [e] at hk; cases hk
  rw [Mc.check_yes hw (Mc.mfOk_iff.2 ⟨⟨by simpa using hrt, by omega, by omega⟩, hne⟩)] at hZ
  have HK := Lib.hid hk
  have q0 : ((f.code.length : Int) == 0) = false := by rw [hk]; simp; omega
  have HZ := Lib.hid hZ
  have HE : Hid (∀ h : k < f.code.length, Mc.checkEnd f = if Mc.goesK (f.code[k]'h).kind then ((k : Int), 30) else (0, 0)) := Lib.hid (fun h => Mc.checkEnd_at hk)
  clear hk hne hrt
  clear hZ
  go_enter Tryz.func13, Tryz.ntmps13
  go_upto_region 1 with fail
  refine at_code (F := fun W => Hid (C12 w W (mdA m x) (mfV f P p1 R0 p2 C p3))) HC0 ?_
  clear HC0
  intro W S
  obtain ⟨y0, y1, y2, y3⟩ := mfV_cells S.out.mf
  go_upto_region 5 with (go_at_call 29; refine (HR.out _ S.out.bel).mono ?_; rintro e w2 ⟨rfl, hb⟩; have S2 := Lib.hid (S.out.below hb); clear hb y0 y1 y2 y3; obtain ⟨y0, y1, y2, y3⟩ := mfV_cells S2.out.mf)
  refine at_code (F := fun W => Hid (C12 w W (mdA m x) (mfV f P p1 R0 p2 C p3))) S2 ?_
  clear S S2 HR y0 y1 y2 y3 q0
  obtain ⟨t, ht⟩ : ∃ t, Mc.thOf m = t := ⟨_, rfl⟩
  simp only [ht] at HRi HZ
  clear ht
  intro W S
  go_wp2_with fail
  go_loopw [8] (fun iv wr => ∃ i : Nat, iv = .int .i64 (i : Int) ∧ i ≤ f.code.length ∧ Hid (Mc.checkGo t f regs i = Z) ∧ Hid (C12 w wr (mdA m x) (mfV f P p1 R0 p2 C p3))) (fun iv _ => f.code.length - (intOf iv).toNat)
  case atStart => exact ⟨0, rfl, by omega, HZ, S⟩
  case round =>
    clear S HZ
    obtain ⟨i, rfl, hi, HZ, S⟩ := hrel
    obtain ⟨⟨g0, g1, g2, g3, g4, g5⟩, g6, g7, g8, g9, g10, g11⟩ := mdA_cells S.out.md
    obtain ⟨y0, y1, y2, y3⟩ := mfV_cells S.out.mf
    by_cases hia : i < f.code.length
    · skip
      have x0 : (i : Int) < (f.code.length : Int) := by omega
      have x1 : (0 : Int) ≤ (i : Int) := by omega
      obtain ⟨g, o, hA, -, hgl, hat⟩ := (RdM.on HF.out.code S.out.bel).get hia
      obtain ⟨D, c1, E, c2, T, c3, ⟨f0, f1, f2, f3, f4, f5, f6, f7, f8⟩, hrd, hcp⟩ := hat.cellsC
      have HRX := Lib.hid (HRi.out i hia D c1 E c2 T c3)
      have HMI := Lib.hid hrd
      have HB1 := Lib.hid (fun h => Mc.checkGo_bad (t := t) (f := f) (r := regs) hia h)
      have HB2 := Lib.hid (fun h => Mc.checkGo_next (t := t) (f := f) (r := regs) hia h)
      obtain ⟨y, hy⟩ : ∃ y, f.code[i] = y := ⟨_, rfl⟩
      simp only [hy] at f0 f1 f2 f3 f4 f5 f6 f7 f8 HRX HMI HB1 HB2
      clear hy hat hrd hcp
      subst hA
      obtain ⟨r, hr⟩ : ∃ r, Mc.rightI t y f regs = r := ⟨_, rfl⟩
      simp only [hr] at HRX HB1 HB2
      clear hr
      unfold mdA miV mfV at HRX
      go_wp2_with fail
      refine wp_region_held_drew (S := (fun W' => W'.cell? ⟨w.heap.size, 0, none⟩ = some (.slice x.TA m.types.length x.tc) ∧ W'.cell? ⟨w.heap.size, 1, none⟩ = some (.slice x.IA m.imps.length x.ic) ∧ W'.cell? ⟨w.heap.size, 2, none⟩ = some (.slice x.FA m.funcs.length x.fc) ∧ W'.cell? ⟨w.heap.size, 3, none⟩ = some (.slice x.BA m.tables.length x.bc) ∧ W'.cell? ⟨w.heap.size, 4, none⟩ = some (.slice x.MA m.mems x.mc) ∧ W'.cell? ⟨w.heap.size, 5, none⟩ = some (.slice x.GA m.globals.length x.gc) ∧ W'.cell? ⟨w.heap.size, 6, none⟩ = some (x.v6) ∧ W'.cell? ⟨w.heap.size, 7, none⟩ = some (x.v7) ∧ W'.cell? ⟨w.heap.size, 8, none⟩ = some (x.v8) ∧ W'.cell? ⟨w.heap.size, 9, none⟩ = some (.slice x.EA m.elems x.ec) ∧ W'.cell? ⟨w.heap.size, 10, none⟩ = some (.slice x.DA m.datas x.dc) ∧ W'.cell? ⟨w.heap.size, 11, none⟩ = some (x.v11) ∧ W'.cell? ⟨w.heap.size + 1, 0, none⟩ = some (.slice P f.ps.length p1) ∧ W'.cell? ⟨w.heap.size + 1, 1, none⟩ = some (.slice R0 f.rs.length p2) ∧ W'.cell? ⟨w.heap.size + 1, 2, none⟩ = some (.int .i64 f.slots) ∧ W'.cell? ⟨w.heap.size + 1, 3, none⟩ = some (.slice (some ⟨g, o, none⟩) f.code.length p3) ∧ W'.cell? ⟨g, o + i * 9, none⟩ = some (.int .i64 y.kind) ∧ W'.cell? ⟨g, o + i * 9 + 1, none⟩ = some (.int .i64 y.op) ∧ W'.cell? ⟨g, o + i * 9 + 2, none⟩ = some (.int .i64 y.a) ∧ W'.cell? ⟨g, o + i * 9 + 3, none⟩ = some (.int .i64 y.b) ∧ W'.cell? ⟨g, o + i * 9 + 4, none⟩ = some (.int .u64 (y.n : Int)) ∧ W'.cell? ⟨g, o + i * 9 + 5, none⟩ = some (.slice D y.d.length c1) ∧ W'.cell? ⟨g, o + i * 9 + 6, none⟩ = some (.slice E y.s.length c2) ∧ W'.cell? ⟨g, o + i * 9 + 7, none⟩ = some (.slice T y.tos.length c3) ∧ W'.cell? ⟨g, o + i * 9 + 8, none⟩ = some (.int .i64 y.trap))) (by kernel_rfl) ?_ (fun hHeld0 => ?_)
      · exact ⟨g0, g1, g2, g3, g4, g5, g6, g7, g8, g9, g10, g11, y0, y1, y2, y3, f0, f1, f2, f3, f4, f5, f6, f7, f8⟩
      refine tj (i := 0) rfl ?_; (try simp only [zS, zN, zT, zC, zZ])
      refine tj (i := 1) rfl ?_; (try simp only [zS, zN, zT, zC, zZ])
      refine tj (i := 2) rfl ?_; (try simp only [zS, zN, zT, zC, zZ])
      refine tj (i := 3) rfl ?_; (try simp only [zS, zN, zT, zC, zZ])
      refine tj (i := 4) rfl ?_; (try simp only [zS, zN, zT, zC, zZ])
      refine tj (i := 5) rfl ?_; (try simp only [zS, zN, zT, zC, zZ])
      refine tj (i := 6) rfl ?_; (try simp only [zS, zN, zT, zC, zZ])
      refine tj (i := 7) rfl ?_; (try simp only [zS, zN, zT, zC, zZ])
      refine wpAnyH_ready (rs := [8]) (by kernel_rfl) (by simp) ?_
      refine AllReadyH.cons rfl (fun K hK => ?_) AllReadyH.nil
      go_simp
      (refine (HRX.out _ (S.out.bel.trans ((below_drewN wr 1).mono S.out.bel.size)) (HMI.out.on (below_drewN wr 1))).mono ?_; rintro e w6 ⟨rfl, hb⟩; have BC := (below_drewN wr 1).trans (hb.mono (Nat.le_refl _)); have S6 := Lib.hid (S.out.below BC); have kp := Below.keep BC (fun _ => True))
      (try dsimp only)
      refine hK.out _ _ ?_ (fun hHeld1 => ?_)
      · (try dsimp only); (repeat' refine And.intro ?_ ?_) <;> exact kp _ _ trivial (by assumption)
      clear hK K hHeld0
      (try simp only [zS, zN, zT, zC, zZ])
      refine tj (i := 9) rfl ?_; (try simp only [zS, zN, zT, zC, zZ])
      refine wpAnyH_done (by kernel_rfl) ?_ _
      (try dsimp only)
      rcases r with _ | _
      · have HX := Lib.hid ((HB1.out rfl).symm.trans HZ.out)
        clear HB1 HB2 HZ
        repeat (first | go_values | go_skip | go_guarded | go_step | go_upon)
        go_wp2_with fail
        go_ret2
        exact ⟨by rw [← HX.out]; rfl, S6.out.bel⟩
      have HX := Lib.hid ((HB2.out rfl).symm.trans HZ.out)
      clear HB1 HB2 HZ
      repeat (first | go_values | go_skip | go_guarded | go_step | go_upon)
      go_wp2_with fail
      go_roundw
      case rel => exact ⟨i + 1, by go_num, by omega, HX, S6⟩
      case measure => simp [intOf] <;> omega
    · skip
      obtain rfl : i = f.code.length := by omega
      have x2 : ¬ (f.code.length : Int) < (f.code.length : Int) := by omega
      have hz := HZ.out
      have hkk := HK.out
      have hia : k < f.code.length := by omega
      rw [Mc.checkGo_end, HE.out hia] at hz
      obtain ⟨g, o, hA, -, hgl, hat⟩ := (RdM.on HF.out.code S.out.bel).get hia
      subst hA
      obtain ⟨D, c1, E, c2, T, c3, ⟨f0, -⟩, hrd, hcp⟩ := hat.cellsC
      obtain ⟨y, hy⟩ : ∃ y, f.code[k] = y := ⟨_, rfl⟩
      simp only [hy] at f0 hz
      have hwk : IntKind.i64.wrap ((f.code.length : Int) - 1) = (k : Int) := by rw [IntKind.wrap_i64]; omega
      have x3 : (k : Int) < (f.code.length : Int) := by omega
      have x4 : (0 : Int) ≤ (k : Int) := by omega
      have HG := Lib.hid (fun W => goes_any y.kind W)
      have HX := Lib.hid hz
      obtain ⟨gk, hgk⟩ : ∃ b, Mc.goesK y.kind = b := ⟨_, rfl⟩
      simp only [hgk] at HG HX
      clear hz hy hat hrd hcp hgk HZ HE HRi HF
      rcases gk with _ | _
      all_goals
        go_wp2_with (go_at_call 21; refine (HG.out _).mono ?_; rintro e w6 ⟨rfl, rfl⟩)
        go_ret2
        exact ⟨by rw [← HX.out]; rfl, S.out.bel⟩
end Go.Proofs.YtadnfekogmjieaaGreatDoor
set_option linter.unusedVariables false
set_option linter.unusedSimpArgs false
namespace Go.Proofs.YtadnfekogmjieaaGreatDoor
open Go.RowKit
open Mc (Pl Mi Mf Th Wt Im Md)
set_option maxHeartbeats 16000000 in
set_option maxRecDepth 100000 in
theorem checks_walk (m : Md) (x : MX) (ho : x.One) (hpl : ∀ f ∈ m.types, f.1.length ≤ 17592186044416 ∧ f.2.length ≤ 17592186044416) (f : Mf) (hq : ∀ x ∈ f.code, QMi x) (hsl : InR f.slots) (c3 : Nat) (r : Int)
    (P : Option Addr) (c1 : Nat) (R : Option Addr) (c2 : Nat) (C : Option Addr) (w : World) (G : GlobM w) (hml : MdL (fun g => g < w.heap.size) w m x) (h : MfAt (fun g => g < w.heap.size) w f P R C) :
    Calls Tryz.prog 3 #[.agg (mdA m x), .agg (mfV f P c1 R c2 C c3), .int .i64 r] w fun e w' => e = .returned (.bool true) ∧ Below w.heap.size w w' := by
  have I0 := Lib.hid (DSt.new (c1 := c1) (c2 := c2) (c3 := c3) hml h G)
  have HM := Lib.hid (fun W (h : MdL (fun g => g < w.heap.size) W m x) (hs : w.heap.size ≤ W.heap.size) => mdlight_any m x ho (fun g => g < w.heap.size) W (fun g hg => Nat.lt_of_lt_of_le hg hs) h)
  have HL := Lib.hid (fun W (h : MfAt (fun g => g < w.heap.size) W f P R C) => light_any f _ P c1 R c2 C c3 W h)
  have HA := Lib.hid (fun W (G : GlobM W) => alive_any W G)
  unfold mfV at HL
  unfold mdA at HM
  rcases hl : Mc.lightB f with _ | _
  · rw [hl] at HL
    clear hq hsl h G hl hml hpl
    go_enter Tryz.func3, Tryz.ntmps3
    go_upto_region 1 with fail
    refine at_code (F := fun W => Hid (DSt w W m x (fun g => g < w.heap.size) f (fun g => g < w.heap.size) P c1 R c2 C c3)) I0 ?_
    clear I0
    intro W I
    obtain ⟨y0, y1, y2, y3⟩ := mfV_cells I.out.fs.var
    obtain ⟨⟨z0, z1, z2, z3, z4, z5⟩, z6, z7, z8, z9, z10, z11⟩ := mdA_cells I.out.md
    go_wp2_with (first | (go_at_call 9; (with_reducible refine (HM.out _ I.out.ml I.out.fs.bel.size).mono ?_); rintro e w1 ⟨⟨b, rfl, hlite⟩, hb⟩; have I1 := Lib.hid (I.out.step hb); have HLT := Lib.hid hlite; clear hb hlite I y0 y1 y2 y3 z0 z1 z2 z3 z4 z5 z6 z7 z8 z9 z10 z11; obtain ⟨y0, y1, y2, y3⟩ := mfV_cells I1.out.fs.var; obtain ⟨⟨z0, z1, z2, z3, z4, z5⟩, z6, z7, z8, z9, z10, z11⟩ := mdA_cells I1.out.md; rcases b with _ | _) | (go_at_call 10; (with_reducible refine (HL.out _ I1.out.fs.at_).mono ?_); rintro e w2 ⟨rfl, hb⟩; have I2 := Lib.hid (I1.out.step hb); clear hb I1) | (go_at_call 11; (with_reducible refine (HA.out _ I2.out.fs.glob).mono ?_); rintro e w9 ⟨rfl, hb⟩; have I3 := Lib.hid (I2.out.step hb); clear hb I2) | (go_at_call 11; (with_reducible refine (HA.out _ I1.out.fs.glob).mono ?_); rintro e w9 ⟨rfl, hb⟩; have I3 := Lib.hid (I1.out.step hb); clear hb I1))
    all_goals go_ret
    all_goals exact ⟨rfl, I3.out.fs.bel⟩
  rw [hl] at HL
  have hlt := Mc.lightB_iff.1 hl
  have hok := light_ok hlt hq hsl
  have HCK := Lib.hid (fun (few : m.Few) W (G : GlobM W) (hmd : MdL (fun g => g < w.heap.size) W m x) (h : MfAt (fun g => g < w.heap.size) W f P R C) => mcheck_any m few x ho f P c1 R c2 C c3 r (by have := hlt.ps; omega) (by have := hlt.rs; omega) (by have := hlt.code; omega) (ok_lists hok) _ _ W G hmd.rd h)
  have HRK := Lib.hid (fun (few : m.Few) W (hmd : MdL (fun g => g < w.heap.size) W m x) (h : MfAt (fun g => g < w.heap.size) W f P R C) => rcheck_any m few x ho f hok P c1 R c2 C c3 r _ _ W hmd h)
  have HFEW := Lib.hid (fun (hl : m.Lite) => lite_few hl hpl)
  obtain ⟨⟨za, zb⟩, hZ⟩ : ∃ Z, Mc.check (Mc.thOf m) f r = Z := ⟨_, rfl⟩
  simp only [hZ] at HCK HRK
  unfold mfV at HCK HRK
  unfold mdA at HCK HRK
  clear hlt hok hl hq hsl h G hml hpl hZ
  go_enter Tryz.func3, Tryz.ntmps3
  go_upto_region 1 with fail
  refine at_code (F := fun W => Hid (DSt w W m x (fun g => g < w.heap.size) f (fun g => g < w.heap.size) P c1 R c2 C c3)) I0 ?_
  clear I0
  intro W I
  obtain ⟨y0, y1, y2, y3⟩ := mfV_cells I.out.fs.var
  obtain ⟨⟨z0, z1, z2, z3, z4, z5⟩, z6, z7, z8, z9, z10, z11⟩ := mdA_cells I.out.md
  go_upto_if 18 with (first | (go_at_call 9; (with_reducible refine (HM.out _ I.out.ml I.out.fs.bel.size).mono ?_); rintro e w1 ⟨⟨b, rfl, hlite⟩, hb⟩; have I1 := Lib.hid (I.out.step hb); have HLT := Lib.hid hlite; clear hb hlite I y0 y1 y2 y3 z0 z1 z2 z3 z4 z5 z6 z7 z8 z9 z10 z11; obtain ⟨y0, y1, y2, y3⟩ := mfV_cells I1.out.fs.var; obtain ⟨⟨z0, z1, z2, z3, z4, z5⟩, z6, z7, z8, z9, z10, z11⟩ := mdA_cells I1.out.md; rcases b with _ | _) | (go_at_call 10; (with_reducible refine (HL.out _ I1.out.fs.at_).mono ?_); rintro e w2 ⟨rfl, hb⟩; have I2 := Lib.hid (I1.out.step hb); clear hb I1))
  · go_wp2_with (go_at_call 11; (with_reducible refine (HA.out _ I1.out.fs.glob).mono ?_); rintro e w9 ⟨rfl, hb⟩; have I3 := Lib.hid (I1.out.step hb); clear hb I1)
    go_ret
    exact ⟨rfl, I3.out.fs.bel⟩
  have few := HFEW.out (HLT.out (by trivial))
  replace HCK := Lib.hid (HCK.out few)
  replace HRK := Lib.hid (HRK.out few)
  clear few HFEW HLT HM HL
  obtain ⟨y0, y1, y2, y3⟩ := mfV_cells I2.out.fs.var
  obtain ⟨⟨z0, z1, z2, z3, z4, z5⟩, z6, z7, z8, z9, z10, z11⟩ := mdA_cells I2.out.md
  have qa : (za == za) = true := beq_self_eq_true za
  have qb : (zb == zb) = true := beq_self_eq_true zb
  go_wp2_with (first | (go_at_call 12; (with_reducible refine (HCK.out _ I2.out.fs.glob I2.out.ml I2.out.fs.at_).mono ?_); rintro e w9 ⟨rfl, hb⟩; have I3 := Lib.hid (I2.out.step hb); clear hb I2 y0 y1 y2 y3 z0 z1 z2 z3 z4 z5 z6 z7 z8 z9 z10 z11; obtain ⟨y0, y1, y2, y3⟩ := mfV_cells I3.out.fs.var; obtain ⟨⟨z0, z1, z2, z3, z4, z5⟩, z6, z7, z8, z9, z10, z11⟩ := mdA_cells I3.out.md) | (go_at_call 13; (with_reducible refine (HRK.out _ I3.out.ml I3.out.fs.at_).mono ?_); rintro e w9 ⟨rfl, hb⟩; have I4 := Lib.hid (I3.out.step hb); clear hb I3 y0 y1 y2 y3 z0 z1 z2 z3 z4 z5 z6 z7 z8 z9 z10 z11; obtain ⟨y0, y1, y2, y3⟩ := mfV_cells I4.out.fs.var; obtain ⟨⟨z0, z1, z2, z3, z4, z5⟩, z6, z7, z8, z9, z10, z11⟩ := mdA_cells I4.out.md) | (go_at_call 11; (with_reducible refine (HA.out _ I4.out.fs.glob).mono ?_); rintro e w9 ⟨rfl, hb⟩; have I5 := Lib.hid (I4.out.step hb); clear hb I4))
  go_ret
  exact ⟨rfl, I5.out.fs.bel⟩
end Go.Proofs.YtadnfekogmjieaaGreatDoor
