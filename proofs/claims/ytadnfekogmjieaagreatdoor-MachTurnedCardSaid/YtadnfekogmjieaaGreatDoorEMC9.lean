/-
  Layer 51, the program: once, and what it calls. (Printed by gen_mc9.py.)
-/
import Derived.Test.YtadnfekogmjieaaGreatDoorEGF
import Derived.Test.YtadnfekogmjieaaGreatDoorEGI
import Derived.Test.YtadnfekogmjieaaGreatDoorEGJ
import Derived.Test.YtadnfekogmjieaaGreatDoorETk
import Derived.Deep.RegionHeld3
set_option linter.unusedVariables false
set_option linter.unusedSimpArgs false
namespace Go.Proofs.YtadnfekogmjieaaGreatDoor
open Go.RowKit
open Mc (Pl Mi Mf)
theorem RdP.take {w : World} {S : Nat → Prop} {A : Option Addr} {l : List Pl} (h : RdP w S A l) (i : Nat) : RdP w S A (l.take i) := fun hl => by
  have hne : l ≠ [] := fun e => hl (by rw [e]; simp)
  obtain ⟨g, o, e, hs, hg, hc⟩ := h hne
  refine ⟨g, o, e, hs, hg, fun j hj => ?_⟩
  have hj2 : j < l.length := by rw [List.length_take] at hj; omega
  rw [List.getElem_take]
  exact hc j hj2
set_option maxHeartbeats 4000000 in
set_option maxRecDepth 100000 in
theorem pidx_any (S : Nat → Prop) (A : Option Addr) (c : Nat) (l : List Pl) (hl : l.length ≤ 1000000) (p : Pl) (w : World) (h : RdP w S A l) :
    Calls Tryz.prog 148 #[.slice A l.length c, .agg #[.bool p.slot, .int .i64 p.n]] w fun e w' => (∃ z : Int, e = .returned (.int .i64 z) ∧ decide (0 ≤ z) = l.contains p) ∧ Below w.heap.size w w' := by
  obtain ⟨R, hR⟩ : ∃ R, l.contains p = R := ⟨_, rfl⟩
  rw [hR]
  have HR : Hid ((l.drop 0).contains p = R) := Lib.hid hR
  have HB0 := Lib.hid ((Below.refl w.heap.size w).alloc (Nat.le_refl _) (.cells #[.bool p.slot, .int .i64 p.n] 64))
  have HV0 := Lib.hid (Var.new w #[.bool p.slot, .int .i64 p.n] 64)
  clear hR
  go_enter Tryz.func148, Tryz.ntmps148
  go_wp2
  go_loopw [8] (fun iv wr => ∃ i : Nat, iv = .int .i64 (i : Int) ∧ i ≤ l.length ∧ Hid ((l.drop i).contains p = R) ∧ Hid (Below w.heap.size w wr) ∧ Hid (Var wr w.heap.size #[.bool p.slot, .int .i64 p.n] 64)) (fun iv _ => l.length - (intOf iv).toNat)
  case atStart => exact ⟨0, rfl, by omega, HR, HB0, HV0⟩
  case round =>
    clear HR HB0 HV0
    obtain ⟨i, rfl, hi, HR, HB, HV⟩ := hrel
    obtain ⟨q0, q1⟩ := cells2 HV.out
    by_cases hia : i < l.length
    · have x0 : (i : Int) < (l.length : Int) := by omega
      have x1 : (0 : Int) ≤ (i : Int) := by omega
      obtain ⟨g, o, rfl, -, -, f0, f1⟩ := (RdP.on h HB.out).get hia
      have hd := HR.out
      rw [List.drop_eq_getElem_cons hia, List.contains_cons] at hd
      obtain ⟨t, ht⟩ : ∃ t, l[i] = t := ⟨_, rfl⟩
      rw [ht] at hd f0 f1
      clear ht HR
      by_cases e1 : p.slot = t.slot
      case neg =>
        have hne : (p == t) = false := by rw [beq_eq_false_iff_ne]; exact fun e => e1 (by rw [e])
        rw [hne, Bool.false_or] at hd
        have HD := Lib.hid hd
        clear hd hne
        go_wp2
        go_region
        go_wp2
        go_roundw
        case rel => exact ⟨i + 1, by go_num, by omega, HD, Lib.hid (HB.out.trans ((below_drewN _ 1).mono HB.out.size)), HV⟩
        case measure => simp [intOf]; omega
      by_cases e2 : p.n = t.n
      case neg =>
        have hne : (p == t) = false := by rw [beq_eq_false_iff_ne]; exact fun e => e2 (by rw [e])
        rw [hne, Bool.false_or] at hd
        have HD := Lib.hid hd
        clear hd hne
        go_wp2
        go_region
        go_wp2
        go_roundw
        case rel => exact ⟨i + 1, by go_num, by omega, HD, Lib.hid (HB.out.trans ((below_drewN _ 1).mono HB.out.size)), HV⟩
        case measure => simp [intOf]; omega
      have heq : (p == t) = true := by
        rw [beq_iff_eq]
        obtain ⟨t1, t2⟩ := t
        obtain ⟨u1, u2⟩ := p
        dsimp only at e1 e2
        rw [e1, e2]
      rw [heq, Bool.true_or] at hd
      have HD := Lib.hid hd
      clear hd heq
      go_wp2
      go_region
      go_wp2
      go_ret
      exact ⟨⟨_, rfl, by rw [← HD.out]; simp⟩, HB.out.trans ((below_drewN _ 1).mono HB.out.size)⟩
    · obtain rfl : i = l.length := by omega
      have x0 : ¬ (l.length : Int) < (l.length : Int) := by omega
      have hd := HR.out
      rw [List.drop_length] at hd
      have HD := Lib.hid hd
      clear hd HR
      go_wp2
      go_ret
      exact ⟨⟨_, rfl, by rw [← HD.out]; simp⟩, HB.out⟩
theorem pcont_any (S : Nat → Prop) (A : Option Addr) (c : Nat) (l : List Pl) (hl : l.length ≤ 1000000) (p : Pl) (w : World) (h : RdP w S A l) :
    Calls Tryz.prog 109 #[.slice A l.length c, .agg #[.bool p.slot, .int .i64 p.n]] w fun e w' => e = .returned (.bool (l.contains p)) ∧ Below w.heap.size w w' := by
  have hb := (Below.refl w.heap.size w).alloc (Nat.le_refl _) (.cells #[.bool p.slot, .int .i64 p.n] 64)
  have HC := Lib.hid (pidx_any S A c l hl p _ (RdP.on h hb))
  have HB := Lib.hid hb
  obtain ⟨R, hR⟩ : ∃ R, l.contains p = R := ⟨_, rfl⟩
  rw [hR] at HC ⊢
  clear hb hR
  go_enter Tryz.func109, Tryz.ntmps109
  go_wp2_with (go_at_call 148; refine HC.out.mono ?_; rintro e w1 ⟨⟨z, rfl, hz⟩, hb⟩)
  go_ret
  exact ⟨by first | rfl | (rw [← hz]; rfl), HB.out.trans (hb.mono HB.out.size)⟩
set_option maxHeartbeats 4000000 in
set_option maxRecDepth 100000 in
/-- mach.once. -/
theorem once_any (S : Nat → Prop) (A : Option Addr) (c : Nat) (l : List Pl) (hl : l.length ≤ 1000000) (hc : l.length ≤ c) (w : World) (h : RdP w S A l) :
    Calls Tryz.prog 59 #[.slice A l.length c] w fun e w' => e = .returned (.bool (Mc.once l)) ∧ Below w.heap.size w w' := by
  obtain ⟨R, hR⟩ : ∃ R, Mc.once l = R := ⟨_, rfl⟩
  rw [hR]
  have HR : Hid (Mc.onceGo (l.take 0) (l.drop 0) = R) := Lib.hid hR
  have HCo := Lib.hid (fun (i : Nat) (hi : i ≤ l.length) (p : Pl) W (hW : Below w.heap.size w W) => pcont_any S A c (l.take i) (by rw [List.length_take]; omega) p W (RdP.take (RdP.on h hW) i))
  clear hR
  go_enter Tryz.func59, Tryz.ntmps59
  go_wp2
  go_loopw [7] (fun iv wr => ∃ i : Nat, iv = .int .i64 (i : Int) ∧ i ≤ l.length ∧ Hid (Mc.onceGo (l.take i) (l.drop i) = R) ∧ Hid (Below w.heap.size w wr)) (fun iv _ => l.length - (intOf iv).toNat)
  case atStart => exact ⟨0, rfl, by omega, HR, Lib.hid (Below.refl _ _)⟩
  case round =>
    clear HR
    obtain ⟨i, rfl, hi, HR, HB⟩ := hrel
    by_cases hia : i < l.length
    · have x0 : (i : Int) < (l.length : Int) := by omega
      have x1 : (0 : Int) ≤ (i : Int) := by omega
      have x2 : (i : Int) ≤ (c : Int) := by omega
      obtain ⟨g, o, rfl, -, -, f0, f1⟩ := (RdP.on h HB.out).get hia
      have hd := HR.out
      have htk : l.take i ++ [l[i]] = l.take (i + 1) := (List.take_succ_eq_append_getElem hia).symm
      rw [List.drop_eq_getElem_cons hia, Mc.onceGo, htk] at hd
      have htl : (l.take i).length = i := by rw [List.length_take]; omega
      obtain ⟨t, ht⟩ : ∃ t, l[i] = t := ⟨_, rfl⟩
      rw [ht] at hd f0 f1
      have HCi := Lib.hid (HCo.out i hi t)
      rw [htl] at HCi
      obtain ⟨q, hq⟩ : ∃ q, (l.take i).contains t = q := ⟨_, rfl⟩
      rw [hq] at HCi hd
      have HD := Lib.hid hd
      clear ht HR hd htk hq htl
      go_upto_region 4 with fail
      have ha := (Below.refl wr.heap.size wr).alloc (Nat.le_refl _) (.cells #[.bool t.slot, .int .i64 t.n] 64)
      refine at_code (F := fun W => Hid (Below w.heap.size w W) ∧ Hid (Var W wr.heap.size #[.bool t.slot, .int .i64 t.n] 64)) ⟨Lib.hid (HB.out.trans (ha.mono HB.out.size)), Lib.hid (Var.new _ _ _)⟩ ?_
      clear ha f0 f1 HB
      obtain ⟨K4, hK4⟩ : ∃ K, wr.heap.size = K := ⟨_, rfl⟩
      simp only [hK4]
      clear hK4
      rintro W ⟨HB, HV⟩
      obtain ⟨q0, q1⟩ := cells2 HV.out
      have SS : (fun W' => W'.cell? ⟨K4, 0, none⟩ = some (.bool t.slot) ∧ W'.cell? ⟨K4, 1, none⟩ = some (.int .i64 t.n)) (World.drew W) := ⟨q0, q1⟩
      dsimp only at SS
      refine wp_region_held_drew (S := (fun W' => W'.cell? ⟨K4, 0, none⟩ = some (.bool t.slot) ∧ W'.cell? ⟨K4, 1, none⟩ = some (.int .i64 t.n))) (by kernel_rfl) ?_ (fun hHeld0 => ?_)
      · first | assumption | go_keep
      refine wpAnyH_take (i := 0) (oi := { dst := some 12, op := Go.Op.move (Go.Operand.tmp 0), type := 57, pos := "mach.go:246", after := #[], guard := none }) (v := ?v_1_0) rfl (by kernel_rfl) (by kernel_rfl) (by kernel_rfl) (fun _ _ _ h => h) (Or.inl ⟨by rfl, ?hy_1_0⟩) (by assumption) ?rest_1_0
      case hy_1_0 => (intro w hSw; (try dsimp only at hSw); go_simp; (try (with_reducible rfl)))
      (try simp only [Act.put, List.setIfInBounds_toArray, List.set_cons_succ, List.set_cons_zero])
      refine wpAnyH_take (i := 1) (oi := { dst := some 13, op := Go.Op.move (Go.Operand.tmp 3), type := 3, pos := "mach.go:246", after := #[], guard := none }) (v := ?v_1_1) rfl (by kernel_rfl) (by kernel_rfl) (by kernel_rfl) (fun _ _ _ h => h) (Or.inl ⟨by rfl, ?hy_1_1⟩) (by assumption) ?rest_1_1
      case hy_1_1 => (intro w hSw; (try dsimp only at hSw); go_simp; (try (with_reducible rfl)))
      (try simp only [Act.put, List.setIfInBounds_toArray, List.set_cons_succ, List.set_cons_zero])
      refine wpAnyH_take (i := 2) (oi := { dst := some 14, op := Go.Op.slice 57 (Go.Operand.tmp 12) none (some (Go.Operand.tmp 13)) none, type := 57, pos := "mach.go:246", after := #[{ on := 0, ground := Go.Ground.data }, { on := 1, ground := Go.Ground.data }], guard := none }) (v := ?v_1_2) rfl (by kernel_rfl) (by kernel_rfl) (by kernel_rfl) (fun _ _ _ h => h) (Or.inl ⟨by rfl, ?hy_1_2⟩) (by assumption) ?rest_1_2
      case hy_1_2 => (intro w hSw; (try dsimp only at hSw); go_simp; (try (with_reducible rfl)))
      (try simp only [Act.put, List.setIfInBounds_toArray, List.set_cons_succ, List.set_cons_zero])
      refine wpAnyH_take (i := 3) (oi := { dst := some 15, op := Go.Op.load 64 (Go.Operand.tmp 4), type := 64, pos := "mach.go:246", after := #[], guard := none }) (v := ?v_1_3) rfl (by kernel_rfl) (by kernel_rfl) (by kernel_rfl) (fun _ _ _ h => h) (Or.inl ⟨by rfl, ?hy_1_3⟩) (by assumption) ?rest_1_3
      case hy_1_3 => (intro w hSw; (try dsimp only at hSw); go_simp; (try (with_reducible rfl)))
      (try simp only [Act.put, List.setIfInBounds_toArray, List.set_cons_succ, List.set_cons_zero])
      refine wpAnyH_ready (rs := [4]) (by kernel_rfl) (by simp) ?_
      refine AllReadyH.cons (o := ⟨some 16, .call { callee := .value (.func 109), args := #[.tmp 14, .tmp 15], argTypes := #[57, 64] }, 4, "mach.go:246", #[⟨2, .data⟩, ⟨3, .data⟩], none⟩) rfl (fun K hK => ?_) AllReadyH.nil
      go_simp
      (refine (HCi.out (World.drew W) (HB.out.trans ((below_drewN W 1).mono HB.out.size))).mono ?_; rintro e w3 ⟨rfl, hb⟩; have BX := HB.out.trans (((below_drewN W 1).trans (hb.mono (Nat.le_refl _))).mono HB.out.size); have V3 := var_keep HV.out ((below_drewN W 1).trans (hb.mono (Nat.le_refl _))); have SS3 : (fun W' => W'.cell? ⟨K4, 0, none⟩ = some (.bool t.slot) ∧ W'.cell? ⟨K4, 1, none⟩ = some (.int .i64 t.n)) w3 := cells2 V3; dsimp only at SS3)
      (try dsimp only)
      refine hK.out _ _ ?_ (fun hHeld1 => ?_)
      · first | trivial | ((try dsimp only); first | assumption | trivial | go_keep)
      clear hK K hHeld0
      (try simp only [Act.put, List.setIfInBounds_toArray, List.set_cons_succ, List.set_cons_zero])
      refine wpAnyH_done (by kernel_rfl) ?_ _
      (try dsimp only)
      rcases q with _ | _
      · have HD2 : Hid (Mc.onceGo (l.take (i + 1)) (l.drop (i + 1)) = R) := Lib.hid (by rw [← HD.out]; rfl)
        repeat (first | go_values | go_skip | go_guarded | go_step | go_upon)
        go_wp2_with fail
        go_roundw
        case rel => exact ⟨i + 1, by go_num, by omega, HD2, Lib.hid BX⟩
        case measure => simp [intOf]; omega
      · have HD2 : R = false := by rw [← HD.out]; rfl
        repeat (first | go_values | go_skip | go_guarded | go_step | go_upon)
        go_wp2_with fail
        go_ret
        exact ⟨by first | rfl | (rw [HD2]; rfl), BX⟩
    · obtain rfl : i = l.length := by omega
      have x0 : ¬ (l.length : Int) < (l.length : Int) := by omega
      have hd := HR.out
      rw [List.drop_length] at hd
      have HD := Lib.hid hd
      clear hd HR
      go_wp2
      go_ret
      exact ⟨by rw [← HD.out]; rfl, HB.out⟩
end Go.Proofs.YtadnfekogmjieaaGreatDoor
