/-
  Layer 51: opcode.Width. (Printed by gen_mc3.py.)
-/
import Derived.Test.YtadnfekogmjieaaGreatDoorGTk
import Derived.Test.YtadnfekogmjieaaGreatDoorGMC2
set_option linter.unusedVariables false
set_option linter.unusedSimpArgs false
namespace Go.Proofs.YtadnfekogmjieaaGreatDoor
open Go.RowKit
theorem contains_any (s p : List UInt8) (hs : s.length ≤ 1000000) (w : World) (G : Glob w) : Calls Tryz.prog 197 #[.string ⟨s.toArray⟩, .string ⟨p.toArray⟩] w fun e w' => e = .returned (.bool (Lib.contains s p)) ∧ w = w' := by
  obtain ⟨m, hm⟩ := G.mx
  exact (Tryz.strings_Contains ⟨s.toArray⟩ ⟨p.toArray⟩ m w (by rw [mk_size]; omega) hm).mono fun _ _ h => ⟨h.1, h.2.symm⟩
namespace Mc
def wid3 (s : W) : Int := if s.take 3 = [105, 51, 50] then 4 else 8
def wid2 (s : W) : Int := if Lib.contains (s.drop 4) [51, 50] then 4 else wid3 s
def wid1 (s : W) : Int := if Lib.contains (s.drop 4) [49, 54] then 2 else wid2 s
def wid0 (s : W) : Int := if Lib.contains (s.drop 4) [56] then 1 else wid1 s
set_option maxRecDepth 100000 in
theorem acc_names : ∀ x ∈ Opc.all, 40 ≤ x.1 → x.1 ≤ 62 → 8 ≤ x.2.length := by decide +kernel
theorem acc_name {op : Int} (h : accO op = true) : 8 ≤ (Opc.name op).length := by
  unfold accO at h
  simp only [Bool.and_eq_true, decide_eq_true_eq, Bool.not_eq_true', beq_eq_false_iff_ne] at h
  obtain ⟨⟨h1, h2⟩, h3⟩ := h
  unfold Opc.name at h3 ⊢
  rcases hl : Opc.look op Opc.all with _ | s
  · rw [hl] at h3; exact absurd rfl h3
  · exact acc_names _ (look_mem hl) h1 h2
end Mc
set_option maxHeartbeats 8000000 in
set_option maxRecDepth 100000 in
theorem owidth_any (op : Int) (w : World) (G : Glob w) : Calls Tryz.prog 142 #[.int .i64 op] w fun e w' => e = .returned (.int .i64 (Mc.widO op)) ∧ Below w.heap.size w w' := by
  obtain ⟨R, hR⟩ : ∃ R, Mc.widO op = R := ⟨_, rfl⟩
  rw [hR]
  unfold Mc.widO at hR
  have HA := Lib.hid (fun W (G : Glob W) => oaccess_any op W G)
  have hn := Mc.acc_name (op := op)
  have hn30 := Mc.name_len op
  obtain ⟨a, ha⟩ : ∃ a, Mc.accO op = a := ⟨_, rfl⟩
  rw [ha] at HA hR hn
  have HG := Lib.hid G
  clear ha G
  rcases a with _ | _
  · go_enter Tryz.func142, Tryz.ntmps142
    go_wp2_with (go_at_call 196; refine (HA.out _ HG.out).mono ?_; rintro e w1 ⟨rfl, hb⟩)
    go_ret
    exact ⟨by rw [← hR]; rfl, hb⟩
  have hn8 := hn rfl
  rw [if_pos rfl] at hR
  have HN := Lib.hid (fun W (G : Glob W) => oname_in op W G)
  obtain ⟨s, hs⟩ : ∃ s, Opc.name op = s := ⟨_, rfl⟩
  rw [hs] at HN hR hn8 hn30
  have HR : Hid (R = Mc.wid0 s) := Lib.hid hR.symm
  have HC := Lib.hid (fun (p : List UInt8) W (G : Glob W) => contains_any (s.drop 4) p (by rw [List.length_drop]; omega) W G)
  have hx4 : (4 : Int) ≤ (s.length : Int) := by omega
  have hx3 : (3 : Int) ≤ (s.length : Int) := by omega
  have hbl : (ByteArray.mk s.toArray).size = s.length := by simp [ByteArray.size]
  have hxt := ext_drop s 4 s.length rfl
  have hx0 : (ByteArray.mk s.toArray).extract 0 3 = ⟨(s.take 3).toArray⟩ := by apply ByteArray.ext; simp
  unfold Mc.wid0 Mc.wid1 Mc.wid2 Mc.wid3 at HR
  obtain ⟨t4, ht4⟩ : ∃ t, s.drop 4 = t := ⟨_, rfl⟩
  rw [ht4] at HC hxt HR
  obtain ⟨t3, ht3⟩ : ∃ t, s.take 3 = t := ⟨_, rfl⟩
  rw [ht3] at hx0 HR
  clear hn hs hR ht4 ht3
  go_enter Tryz.func142, Tryz.ntmps142
  go_upto_region 4 with (first
    | (go_at_call 196; refine (HA.out _ HG.out).mono ?_; rintro e w1 ⟨rfl, hb⟩; have B1 := hb)
    | (go_at_call 70; refine (HN.out _ (HG.out.below B1)).mono ?_; rintro e w2 ⟨rfl, hb⟩; have B2 := B1.trans (hb.mono B1.size)))
  refine at_code (F := fun W => Hid (Below w.heap.size w W)) (Lib.hid B2) ?_
  clear B1 B2 hb HA HN
  intro W HB
  have HB1 := Lib.hid (HB.out.alloc HB.out.size (.cells #[.int .i64 8, .int .i64 16, .int .i64 32] 3))
  have HV1 := Lib.hid (Var.new W #[.int .i64 8, .int .i64 16, .int .i64 32] 3)
  obtain ⟨K0, hK0⟩ : ∃ K, W.heap.size = K := ⟨_, rfl⟩
  go_wp2_with fail
  simp only [hK0] at HV1 ⊢
  go_loopw [13] (fun iv wr => ∃ i : Nat, iv = .int .i64 (i : Int) ∧ Hid (Below w.heap.size w wr) ∧ Hid (Var wr K0 #[.int .i64 8, .int .i64 16, .int .i64 32] 3) ∧ ((i = 0 ∧ Hid (R = if Lib.contains t4 [56] = true then 1 else if Lib.contains t4 [49, 54] = true then 2 else if Lib.contains t4 [51, 50] = true then 4 else if t3 = [105, 51, 50] then 4 else 8)) ∨ (i = 1 ∧ Hid (R = if Lib.contains t4 [49, 54] = true then 2 else if Lib.contains t4 [51, 50] = true then 4 else if t3 = [105, 51, 50] then 4 else 8)) ∨ (i = 2 ∧ Hid (R = if Lib.contains t4 [51, 50] = true then 4 else if t3 = [105, 51, 50] then 4 else 8)) ∨ (i = 3 ∧ Hid (R = if t3 = [105, 51, 50] then 4 else 8)))) (fun iv _ => 3 - (intOf iv).toNat)
  case atStart => exact ⟨0, rfl, HB1, HV1, .inl ⟨rfl, HR⟩⟩
  case round =>
    clear HR HB HB1 HV1 hK0
    obtain ⟨i, rfl, HB, HV, hcase⟩ := hrel
    obtain ⟨v0, v1, v2⟩ : wr.cell? ⟨K0, 0, none⟩ = some (.int .i64 8) ∧ wr.cell? ⟨K0, 1, none⟩ = some (.int .i64 16) ∧ wr.cell? ⟨K0, 2, none⟩ = some (.int .i64 32) := ⟨HV.out.cells 0, HV.out.cells 1, HV.out.cells 2⟩
    rcases hcase with ⟨rfl, HR⟩ | ⟨rfl, HR⟩ | ⟨rfl, HR⟩ | ⟨rfl, HR⟩
    · have HCi := Lib.hid (fun W (G : Glob W) => HC.out [56] W G)
      obtain ⟨b, hb⟩ : ∃ b, Lib.contains t4 [56] = b := ⟨_, rfl⟩
      rw [hb] at HCi HR
      clear hb
      go_upto_region 7 with fail
      have BD := Lib.hid (HB.out.trans ((below_drewN wr 1).mono HB.out.size))
      have VD : Hid (Var (World.drew wr) K0 #[.int .i64 8, .int .i64 16, .int .i64 32] 3) := HV
      refine wp_region_held_drew (S := (fun _ => True)) (by kernel_rfl) ?_ (fun hHeld0 => ?_)
      · first | assumption | go_keep
      refine tk (i := 0) rfl ?_
      refine tk (i := 1) rfl ?_
      refine tk (i := 3) rfl ?_
      refine tk (i := 4) (v := .int .i64 0) rfl ?_ (hy := by intro w hSw; (try dsimp only at hSw); go_simp; first | rfl | (simp [IntKind.wrap_i64])); (try simp only [zS, zN, zT, zC, zZ])
      refine wpAnyH_ready (rs := [2]) (by kernel_rfl) (by simp) ?_
      refine AllReadyH.cons rfl (fun K hK => ?_) AllReadyH.nil
      go_simp
      (have BA := Lib.hid (BD.out.alloc (by have := BD.out.size; simpa using this) (.cells #[.string ⟨#[56]⟩, .string ⟨#[49, 54]⟩, .string ⟨#[51, 50]⟩] 9)); have VA := Lib.hid (VD.out.alloc (.cells #[.string ⟨#[56]⟩, .string ⟨#[49, 54]⟩, .string ⟨#[51, 50]⟩] 9)); have VS := Var.new (World.drew wr) #[.string ⟨#[56]⟩, .string ⟨#[49, 54]⟩, .string ⟨#[51, 50]⟩] 9; have s0 : ((World.drew wr).alloc (.cells #[.string ⟨#[56]⟩, .string ⟨#[49, 54]⟩, .string ⟨#[51, 50]⟩] 9)).cell? ⟨(World.drew wr).heap.size, 0, none⟩ = some (.string ⟨#[56]⟩) := VS.cells 0; have s1 : (wr.alloc (.cells #[.string ⟨#[56]⟩, .string ⟨#[49, 54]⟩, .string ⟨#[51, 50]⟩] 9)).cell? ⟨wr.heap.size, 0, none⟩ = some (.string ⟨#[56]⟩) := s0)
      (try dsimp only)
      refine hK.out _ _ ?_ (fun hHeld1 => ?_)
      · first | trivial | ((try dsimp only); first | assumption | trivial | go_keep)
      clear hK K hHeld0
      (try simp only [zS, zN, zT, zC, zZ])
      refine tk (i := 5) (oi := ⟨some 22, .indexAddr 116 (.tmp 19) (.tmp 21), 0, "opcode.go:175", #[⟨2, .data⟩, ⟨4, .data⟩], none⟩) rfl ?_; (try simp only [zS, zN, zT, zC, zZ])
      refine wpAnyH_ready (rs := [6]) (by kernel_rfl) (by simp) ?_
      refine AllReadyH.cons rfl (fun K hK => ?_) AllReadyH.nil
      go_simp
      skip
      (try dsimp only)
      refine hK.out _ _ ?_ (fun hHeld2 => ?_)
      · first | trivial | ((try dsimp only); first | assumption | trivial | go_keep)
      clear hK K hHeld1
      (try simp only [zS, zN, zT, zC, zZ])
      refine wpAnyH_ready (rs := [7]) (by kernel_rfl) (by simp) ?_
      refine AllReadyH.cons rfl (fun K hK => ?_) AllReadyH.nil
      go_simp
      (refine (HCi.out _ (HG.out.below BA.out)).mono ?_; rintro e w3 ⟨rfl, rfl⟩)
      (try dsimp only)
      refine hK.out _ _ ?_ (fun hHeld3 => ?_)
      · first | trivial | ((try dsimp only); first | assumption | trivial | go_keep)
      clear hK K hHeld2
      (try simp only [zS, zN, zT, zC, zZ])
      refine wpAnyH_done (by kernel_rfl) ?_ _
      (try dsimp only)
      rcases b with _ | _
      · have HR2 := Lib.hid (HR.out.trans (if_neg (by decide)))
        repeat (first | go_values | go_skip | go_guarded | go_step | go_upon)
        go_wp2_with fail
        go_roundw
        case rel => exact ⟨1, by go_num, BA, VA, (.inr (.inl ⟨rfl, HR2⟩))⟩
        case measure => simp [intOf]
      · have HR2 : R = 1 := HR.out.trans (if_pos rfl)
        repeat (first | go_values | go_skip | go_guarded | go_step | go_upon)
        go_wp2_with fail
        go_ret
        exact ⟨by first | rfl | (rw [HR2]; rfl), BA.out⟩
    · have HCi := Lib.hid (fun W (G : Glob W) => HC.out [49, 54] W G)
      obtain ⟨b, hb⟩ : ∃ b, Lib.contains t4 [49, 54] = b := ⟨_, rfl⟩
      rw [hb] at HCi HR
      clear hb
      go_upto_region 7 with fail
      have BD := Lib.hid (HB.out.trans ((below_drewN wr 1).mono HB.out.size))
      have VD : Hid (Var (World.drew wr) K0 #[.int .i64 8, .int .i64 16, .int .i64 32] 3) := HV
      refine wp_region_held_drew (S := (fun _ => True)) (by kernel_rfl) ?_ (fun hHeld0 => ?_)
      · first | assumption | go_keep
      refine tk (i := 0) rfl ?_
      refine tk (i := 1) rfl ?_
      refine tk (i := 3) rfl ?_
      refine tk (i := 4) (v := .int .i64 1) rfl ?_ (hy := by intro w hSw; (try dsimp only at hSw); go_simp; first | rfl | (simp [IntKind.wrap_i64])); (try simp only [zS, zN, zT, zC, zZ])
      refine wpAnyH_ready (rs := [2]) (by kernel_rfl) (by simp) ?_
      refine AllReadyH.cons rfl (fun K hK => ?_) AllReadyH.nil
      go_simp
      (have BA := Lib.hid (BD.out.alloc (by have := BD.out.size; simpa using this) (.cells #[.string ⟨#[56]⟩, .string ⟨#[49, 54]⟩, .string ⟨#[51, 50]⟩] 9)); have VA := Lib.hid (VD.out.alloc (.cells #[.string ⟨#[56]⟩, .string ⟨#[49, 54]⟩, .string ⟨#[51, 50]⟩] 9)); have VS := Var.new (World.drew wr) #[.string ⟨#[56]⟩, .string ⟨#[49, 54]⟩, .string ⟨#[51, 50]⟩] 9; have s0 : ((World.drew wr).alloc (.cells #[.string ⟨#[56]⟩, .string ⟨#[49, 54]⟩, .string ⟨#[51, 50]⟩] 9)).cell? ⟨(World.drew wr).heap.size, 1, none⟩ = some (.string ⟨#[49, 54]⟩) := VS.cells 1; have s1 : (wr.alloc (.cells #[.string ⟨#[56]⟩, .string ⟨#[49, 54]⟩, .string ⟨#[51, 50]⟩] 9)).cell? ⟨wr.heap.size, 1, none⟩ = some (.string ⟨#[49, 54]⟩) := s0)
      (try dsimp only)
      refine hK.out _ _ ?_ (fun hHeld1 => ?_)
      · first | trivial | ((try dsimp only); first | assumption | trivial | go_keep)
      clear hK K hHeld0
      (try simp only [zS, zN, zT, zC, zZ])
      refine tk (i := 5) (oi := ⟨some 22, .indexAddr 116 (.tmp 19) (.tmp 21), 0, "opcode.go:175", #[⟨2, .data⟩, ⟨4, .data⟩], none⟩) rfl ?_; (try simp only [zS, zN, zT, zC, zZ])
      refine wpAnyH_ready (rs := [6]) (by kernel_rfl) (by simp) ?_
      refine AllReadyH.cons rfl (fun K hK => ?_) AllReadyH.nil
      go_simp
      skip
      (try dsimp only)
      refine hK.out _ _ ?_ (fun hHeld2 => ?_)
      · first | trivial | ((try dsimp only); first | assumption | trivial | go_keep)
      clear hK K hHeld1
      (try simp only [zS, zN, zT, zC, zZ])
      refine wpAnyH_ready (rs := [7]) (by kernel_rfl) (by simp) ?_
      refine AllReadyH.cons rfl (fun K hK => ?_) AllReadyH.nil
      go_simp
      (refine (HCi.out _ (HG.out.below BA.out)).mono ?_; rintro e w3 ⟨rfl, rfl⟩)
      (try dsimp only)
      refine hK.out _ _ ?_ (fun hHeld3 => ?_)
      · first | trivial | ((try dsimp only); first | assumption | trivial | go_keep)
      clear hK K hHeld2
      (try simp only [zS, zN, zT, zC, zZ])
      refine wpAnyH_done (by kernel_rfl) ?_ _
      (try dsimp only)
      rcases b with _ | _
      · have HR2 := Lib.hid (HR.out.trans (if_neg (by decide)))
        repeat (first | go_values | go_skip | go_guarded | go_step | go_upon)
        go_wp2_with fail
        go_roundw
        case rel => exact ⟨2, by go_num, BA, VA, (.inr (.inr (.inl ⟨rfl, HR2⟩)))⟩
        case measure => simp [intOf]
      · have HR2 : R = 2 := HR.out.trans (if_pos rfl)
        repeat (first | go_values | go_skip | go_guarded | go_step | go_upon)
        go_wp2_with fail
        go_ret
        exact ⟨by first | rfl | (rw [HR2]; rfl), BA.out⟩
    · have HCi := Lib.hid (fun W (G : Glob W) => HC.out [51, 50] W G)
      obtain ⟨b, hb⟩ : ∃ b, Lib.contains t4 [51, 50] = b := ⟨_, rfl⟩
      rw [hb] at HCi HR
      clear hb
      go_upto_region 7 with fail
      have BD := Lib.hid (HB.out.trans ((below_drewN wr 1).mono HB.out.size))
      have VD : Hid (Var (World.drew wr) K0 #[.int .i64 8, .int .i64 16, .int .i64 32] 3) := HV
      refine wp_region_held_drew (S := (fun _ => True)) (by kernel_rfl) ?_ (fun hHeld0 => ?_)
      · first | assumption | go_keep
      refine tk (i := 0) rfl ?_
      refine tk (i := 1) rfl ?_
      refine tk (i := 3) rfl ?_
      refine tk (i := 4) (v := .int .i64 2) rfl ?_ (hy := by intro w hSw; (try dsimp only at hSw); go_simp; first | rfl | (simp [IntKind.wrap_i64])); (try simp only [zS, zN, zT, zC, zZ])
      refine wpAnyH_ready (rs := [2]) (by kernel_rfl) (by simp) ?_
      refine AllReadyH.cons rfl (fun K hK => ?_) AllReadyH.nil
      go_simp
      (have BA := Lib.hid (BD.out.alloc (by have := BD.out.size; simpa using this) (.cells #[.string ⟨#[56]⟩, .string ⟨#[49, 54]⟩, .string ⟨#[51, 50]⟩] 9)); have VA := Lib.hid (VD.out.alloc (.cells #[.string ⟨#[56]⟩, .string ⟨#[49, 54]⟩, .string ⟨#[51, 50]⟩] 9)); have VS := Var.new (World.drew wr) #[.string ⟨#[56]⟩, .string ⟨#[49, 54]⟩, .string ⟨#[51, 50]⟩] 9; have s0 : ((World.drew wr).alloc (.cells #[.string ⟨#[56]⟩, .string ⟨#[49, 54]⟩, .string ⟨#[51, 50]⟩] 9)).cell? ⟨(World.drew wr).heap.size, 2, none⟩ = some (.string ⟨#[51, 50]⟩) := VS.cells 2; have s1 : (wr.alloc (.cells #[.string ⟨#[56]⟩, .string ⟨#[49, 54]⟩, .string ⟨#[51, 50]⟩] 9)).cell? ⟨wr.heap.size, 2, none⟩ = some (.string ⟨#[51, 50]⟩) := s0)
      (try dsimp only)
      refine hK.out _ _ ?_ (fun hHeld1 => ?_)
      · first | trivial | ((try dsimp only); first | assumption | trivial | go_keep)
      clear hK K hHeld0
      (try simp only [zS, zN, zT, zC, zZ])
      refine tk (i := 5) (oi := ⟨some 22, .indexAddr 116 (.tmp 19) (.tmp 21), 0, "opcode.go:175", #[⟨2, .data⟩, ⟨4, .data⟩], none⟩) rfl ?_; (try simp only [zS, zN, zT, zC, zZ])
      refine wpAnyH_ready (rs := [6]) (by kernel_rfl) (by simp) ?_
      refine AllReadyH.cons rfl (fun K hK => ?_) AllReadyH.nil
      go_simp
      skip
      (try dsimp only)
      refine hK.out _ _ ?_ (fun hHeld2 => ?_)
      · first | trivial | ((try dsimp only); first | assumption | trivial | go_keep)
      clear hK K hHeld1
      (try simp only [zS, zN, zT, zC, zZ])
      refine wpAnyH_ready (rs := [7]) (by kernel_rfl) (by simp) ?_
      refine AllReadyH.cons rfl (fun K hK => ?_) AllReadyH.nil
      go_simp
      (refine (HCi.out _ (HG.out.below BA.out)).mono ?_; rintro e w3 ⟨rfl, rfl⟩)
      (try dsimp only)
      refine hK.out _ _ ?_ (fun hHeld3 => ?_)
      · first | trivial | ((try dsimp only); first | assumption | trivial | go_keep)
      clear hK K hHeld2
      (try simp only [zS, zN, zT, zC, zZ])
      refine wpAnyH_done (by kernel_rfl) ?_ _
      (try dsimp only)
      rcases b with _ | _
      · have HR2 := Lib.hid (HR.out.trans (if_neg (by decide)))
        repeat (first | go_values | go_skip | go_guarded | go_step | go_upon)
        go_wp2_with fail
        go_roundw
        case rel => exact ⟨3, by go_num, BA, VA, (.inr (.inr (.inr ⟨rfl, HR2⟩)))⟩
        case measure => simp [intOf]
      · have HR2 : R = 4 := HR.out.trans (if_pos rfl)
        repeat (first | go_values | go_skip | go_guarded | go_step | go_upon)
        go_wp2_with fail
        go_ret
        exact ⟨by first | rfl | (rw [HR2]; rfl), BA.out⟩
    · by_cases ht : t3 = [105, 51, 50]
      · have HR2 : R = 4 := HR.out.trans (if_pos ht)
        subst ht
        go_wp2_with fail
        go_ret
        exact ⟨by first | rfl | (rw [HR2]; rfl), HB.out⟩
      · have HR2 : R = 8 := HR.out.trans (if_neg ht)
        have hbe := beq_no ht
        have hq2 : (t3 == [105, 51, 50]) = false := by simpa using ht
        clear ht
        go_wp2_with fail
        go_ret
        exact ⟨by first | rfl | (rw [HR2]; rfl), HB.out⟩
end Go.Proofs.YtadnfekogmjieaaGreatDoor
