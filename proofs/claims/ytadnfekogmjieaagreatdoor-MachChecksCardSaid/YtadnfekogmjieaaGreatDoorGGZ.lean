/-
  Layer 51, the reference: how many items of a kind, mem, tab, place. (Printed by gen_mk7.py.)
  Layer 51, the reference: bulk and table. (Printed by gen_mk8.py.)
-/
import Derived.Test.YtadnfekogmjieaaGreatDoorGTj
import Derived.Test.YtadnfekogmjieaaGreatDoorGTk
import Derived.Test.YtadnfekogmjieaaGreatDoorGGY
set_option linter.unusedVariables false
set_option linter.unusedSimpArgs false
namespace Go.Proofs.YtadnfekogmjieaaGreatDoor
open Go.RowKit
open Mc (Pl Mi Im Md)
attribute [local go_sem] ByteArray.extract_mk
set_option maxHeartbeats 8000000 in
set_option maxRecDepth 100000 in
theorem rmems_any (m : Md) (hm : m.Few) (x : MX) (ho : x.One) (S : Nat → Prop) (w : World) (hl : MdL S w m x) :
    Calls Tryz.prog 150 #[.agg (mdA m x)] w fun e w' => e = .returned (.int .i64 ((Mc.thOf m).mems : Int)) ∧ Below w.heap.size w w' := by
  obtain ⟨R, hR⟩ : ∃ R : Nat, (Mc.thOf m).mems = R := ⟨_, rfl⟩
  rw [hR]
  rw [Mc.th_mems] at hR
  have HI := Lib.hid (fun W (h : MdL S W m x) => rimported_any m hm.im x S 2 W h.rd)
  have hle := Mc.impN_le m.imps 2
  have hf := hm.im
  have hf2 := hm.mm
  obtain ⟨c, hc⟩ : ∃ c, Mc.impN m.imps 2 = c := ⟨_, rfl⟩
  simp only [hc] at HI hle hR
  unfold mdA at HI
  have I0 := Lib.hid (R1.new (mv := mdA m x) hl)
  have wi : IntKind.i64.wrap ((c : Int) + (m.mems : Int)) = (R : Int) := by rw [IntKind.wrap_i64]; omega
  clear hl hc ho hf hle hm hf2 hR
  go_enter Tryz.func150, Tryz.ntmps150
  go_upto_region 1 with fail
  refine at_code (F := fun W => Hid (R1 S w W m x (mdA m x))) I0 ?_
  clear I0
  intro W I
  obtain ⟨⟨g0, g1, g2, g3, g4, g5⟩, g6, g7, g8, g9, g10, g11⟩ := mdA_cells I.out.md
  refine wp_region_held_drew (S := (fun W' => W'.cell? ⟨w.heap.size, 0, none⟩ = some (.slice x.TA m.types.length x.tc) ∧ W'.cell? ⟨w.heap.size, 1, none⟩ = some (.slice x.IA m.imps.length x.ic) ∧ W'.cell? ⟨w.heap.size, 2, none⟩ = some (.slice x.FA m.funcs.length x.fc) ∧ W'.cell? ⟨w.heap.size, 3, none⟩ = some (.slice x.BA m.tables.length x.bc) ∧ W'.cell? ⟨w.heap.size, 4, none⟩ = some (.slice x.MA m.mems x.mc) ∧ W'.cell? ⟨w.heap.size, 5, none⟩ = some (.slice x.GA m.globals.length x.gc) ∧ W'.cell? ⟨w.heap.size, 6, none⟩ = some (x.v6) ∧ W'.cell? ⟨w.heap.size, 7, none⟩ = some (x.v7) ∧ W'.cell? ⟨w.heap.size, 8, none⟩ = some (x.v8) ∧ W'.cell? ⟨w.heap.size, 9, none⟩ = some (.slice x.EA m.elems x.ec) ∧ W'.cell? ⟨w.heap.size, 10, none⟩ = some (.slice x.DA m.datas x.dc) ∧ W'.cell? ⟨w.heap.size, 11, none⟩ = some (x.v11))) (by kernel_rfl) ?_ (fun hHeld0 => ?_)
  · exact ⟨g0, g1, g2, g3, g4, g5, g6, g7, g8, g9, g10, g11⟩
  refine tj (i := 0) rfl ?_; (try simp only [zS, zN, zT, zC, zZ])
  refine tj (i := 2) rfl ?_; (try simp only [zS, zN, zT, zC, zZ])
  refine tj (i := 3) rfl ?_; (try simp only [zS, zN, zT, zC, zZ])
  refine tj (i := 4) rfl ?_; (try simp only [zS, zN, zT, zC, zZ])
  refine wpAnyH_ready (rs := [1]) (by kernel_rfl) (by simp) ?_
  refine AllReadyH.cons rfl (fun K hK => ?_) AllReadyH.nil
  go_simp
  (refine (HI.out _ (I.out.ml.on (below_drewN W 1))).mono ?_; rintro e w3 ⟨rfl, hb⟩; have BC := (below_drewN W 1).trans (hb.mono (Nat.le_refl _)); have I3 := Lib.hid (I.out.below BC); have kp := Below.keep BC (fun _ => True))
  (try dsimp only)
  refine hK.out _ _ ?_ (fun hHeld1 => ?_)
  · (try dsimp only); (repeat' refine And.intro ?_ ?_) <;> exact kp _ _ trivial (by assumption)
  clear hK K hHeld0
  (try simp only [zS, zN, zT, zC, zZ])
  refine tj (i := 5) rfl ?_; (try simp only [zS, zN, zT, zC, zZ])
  refine tj (i := 6) rfl ?_; (try simp only [zS, zN, zT, zC, zZ])
  refine wpAnyH_done (by kernel_rfl) ?_ _
  (try dsimp only)
  repeat (first | go_values | go_skip | go_guarded | go_step | go_upon)
  go_wp2_with fail
  go_ret
  exact ⟨by first | rfl | (rw [← wi]; rfl), I3.out.bel⟩
set_option maxHeartbeats 8000000 in
set_option maxRecDepth 100000 in
theorem rtables_any (m : Md) (hm : m.Few) (x : MX) (ho : x.One) (S : Nat → Prop) (w : World) (hl : MdL S w m x) :
    Calls Tryz.prog 202 #[.agg (mdA m x)] w fun e w' => e = .returned (.int .i64 ((Mc.thOf m).tables.length : Int)) ∧ Below w.heap.size w w' := by
  obtain ⟨R, hR⟩ : ∃ R : Nat, (Mc.thOf m).tables.length = R := ⟨_, rfl⟩
  rw [hR]
  rw [Mc.th_tables] at hR
  have HI := Lib.hid (fun W (h : MdL S W m x) => rimported_any m hm.im x S 1 W h.rd)
  have hle := Mc.impN_le m.imps 1
  have hf := hm.im
  have hf2 := hm.tb
  obtain ⟨c, hc⟩ : ∃ c, Mc.impN m.imps 1 = c := ⟨_, rfl⟩
  simp only [hc] at HI hle hR
  unfold mdA at HI
  have I0 := Lib.hid (R1.new (mv := mdA m x) hl)
  have wi : IntKind.i64.wrap ((c : Int) + (m.tables.length : Int)) = (R : Int) := by rw [IntKind.wrap_i64]; omega
  clear hl hc ho hf hle hm hf2 hR
  go_enter Tryz.func202, Tryz.ntmps202
  go_upto_region 1 with fail
  refine at_code (F := fun W => Hid (R1 S w W m x (mdA m x))) I0 ?_
  clear I0
  intro W I
  obtain ⟨⟨g0, g1, g2, g3, g4, g5⟩, g6, g7, g8, g9, g10, g11⟩ := mdA_cells I.out.md
  refine wp_region_held_drew (S := (fun W' => W'.cell? ⟨w.heap.size, 0, none⟩ = some (.slice x.TA m.types.length x.tc) ∧ W'.cell? ⟨w.heap.size, 1, none⟩ = some (.slice x.IA m.imps.length x.ic) ∧ W'.cell? ⟨w.heap.size, 2, none⟩ = some (.slice x.FA m.funcs.length x.fc) ∧ W'.cell? ⟨w.heap.size, 3, none⟩ = some (.slice x.BA m.tables.length x.bc) ∧ W'.cell? ⟨w.heap.size, 4, none⟩ = some (.slice x.MA m.mems x.mc) ∧ W'.cell? ⟨w.heap.size, 5, none⟩ = some (.slice x.GA m.globals.length x.gc) ∧ W'.cell? ⟨w.heap.size, 6, none⟩ = some (x.v6) ∧ W'.cell? ⟨w.heap.size, 7, none⟩ = some (x.v7) ∧ W'.cell? ⟨w.heap.size, 8, none⟩ = some (x.v8) ∧ W'.cell? ⟨w.heap.size, 9, none⟩ = some (.slice x.EA m.elems x.ec) ∧ W'.cell? ⟨w.heap.size, 10, none⟩ = some (.slice x.DA m.datas x.dc) ∧ W'.cell? ⟨w.heap.size, 11, none⟩ = some (x.v11))) (by kernel_rfl) ?_ (fun hHeld0 => ?_)
  · exact ⟨g0, g1, g2, g3, g4, g5, g6, g7, g8, g9, g10, g11⟩
  refine tj (i := 0) rfl ?_; (try simp only [zS, zN, zT, zC, zZ])
  refine tj (i := 2) rfl ?_; (try simp only [zS, zN, zT, zC, zZ])
  refine tj (i := 3) rfl ?_; (try simp only [zS, zN, zT, zC, zZ])
  refine tj (i := 4) rfl ?_; (try simp only [zS, zN, zT, zC, zZ])
  refine wpAnyH_ready (rs := [1]) (by kernel_rfl) (by simp) ?_
  refine AllReadyH.cons rfl (fun K hK => ?_) AllReadyH.nil
  go_simp
  (refine (HI.out _ (I.out.ml.on (below_drewN W 1))).mono ?_; rintro e w3 ⟨rfl, hb⟩; have BC := (below_drewN W 1).trans (hb.mono (Nat.le_refl _)); have I3 := Lib.hid (I.out.below BC); have kp := Below.keep BC (fun _ => True))
  (try dsimp only)
  refine hK.out _ _ ?_ (fun hHeld1 => ?_)
  · (try dsimp only); (repeat' refine And.intro ?_ ?_) <;> exact kp _ _ trivial (by assumption)
  clear hK K hHeld0
  (try simp only [zS, zN, zT, zC, zZ])
  refine tj (i := 5) rfl ?_; (try simp only [zS, zN, zT, zC, zZ])
  refine tj (i := 6) rfl ?_; (try simp only [zS, zN, zT, zC, zZ])
  refine wpAnyH_done (by kernel_rfl) ?_ _
  (try dsimp only)
  repeat (first | go_values | go_skip | go_guarded | go_step | go_upon)
  go_wp2_with fail
  go_ret
  exact ⟨by first | rfl | (rw [← wi]; rfl), I3.out.bel⟩
set_option maxHeartbeats 8000000 in
set_option maxRecDepth 100000 in
theorem rfuncs_any (m : Md) (hm : m.Few) (x : MX) (ho : x.One) (S : Nat → Prop) (w : World) (hl : MdL S w m x) :
    Calls Tryz.prog 160 #[.agg (mdA m x)] w fun e w' => e = .returned (.int .i64 ((Mc.thOf m).funcs.length : Int)) ∧ Below w.heap.size w w' := by
  obtain ⟨R, hR⟩ : ∃ R : Nat, (Mc.thOf m).funcs.length = R := ⟨_, rfl⟩
  rw [hR]
  rw [Mc.th_funcs] at hR
  have HI := Lib.hid (fun W (h : MdL S W m x) => rimported_any m hm.im x S 0 W h.rd)
  have hle := Mc.impN_le m.imps 0
  have hf := hm.im
  have hf2 := hm.fn
  obtain ⟨c, hc⟩ : ∃ c, Mc.impN m.imps 0 = c := ⟨_, rfl⟩
  simp only [hc] at HI hle hR
  unfold mdA at HI
  have I0 := Lib.hid (R1.new (mv := mdA m x) hl)
  have wi : IntKind.i64.wrap ((c : Int) + (m.funcs.length : Int)) = (R : Int) := by rw [IntKind.wrap_i64]; omega
  clear hl hc ho hf hle hm hf2 hR
  go_enter Tryz.func160, Tryz.ntmps160
  go_upto_region 1 with fail
  refine at_code (F := fun W => Hid (R1 S w W m x (mdA m x))) I0 ?_
  clear I0
  intro W I
  obtain ⟨⟨g0, g1, g2, g3, g4, g5⟩, g6, g7, g8, g9, g10, g11⟩ := mdA_cells I.out.md
  refine wp_region_held_drew (S := (fun W' => W'.cell? ⟨w.heap.size, 0, none⟩ = some (.slice x.TA m.types.length x.tc) ∧ W'.cell? ⟨w.heap.size, 1, none⟩ = some (.slice x.IA m.imps.length x.ic) ∧ W'.cell? ⟨w.heap.size, 2, none⟩ = some (.slice x.FA m.funcs.length x.fc) ∧ W'.cell? ⟨w.heap.size, 3, none⟩ = some (.slice x.BA m.tables.length x.bc) ∧ W'.cell? ⟨w.heap.size, 4, none⟩ = some (.slice x.MA m.mems x.mc) ∧ W'.cell? ⟨w.heap.size, 5, none⟩ = some (.slice x.GA m.globals.length x.gc) ∧ W'.cell? ⟨w.heap.size, 6, none⟩ = some (x.v6) ∧ W'.cell? ⟨w.heap.size, 7, none⟩ = some (x.v7) ∧ W'.cell? ⟨w.heap.size, 8, none⟩ = some (x.v8) ∧ W'.cell? ⟨w.heap.size, 9, none⟩ = some (.slice x.EA m.elems x.ec) ∧ W'.cell? ⟨w.heap.size, 10, none⟩ = some (.slice x.DA m.datas x.dc) ∧ W'.cell? ⟨w.heap.size, 11, none⟩ = some (x.v11))) (by kernel_rfl) ?_ (fun hHeld0 => ?_)
  · exact ⟨g0, g1, g2, g3, g4, g5, g6, g7, g8, g9, g10, g11⟩
  refine tj (i := 0) rfl ?_; (try simp only [zS, zN, zT, zC, zZ])
  refine tj (i := 2) rfl ?_; (try simp only [zS, zN, zT, zC, zZ])
  refine tj (i := 3) rfl ?_; (try simp only [zS, zN, zT, zC, zZ])
  refine tj (i := 4) rfl ?_; (try simp only [zS, zN, zT, zC, zZ])
  refine wpAnyH_ready (rs := [1]) (by kernel_rfl) (by simp) ?_
  refine AllReadyH.cons rfl (fun K hK => ?_) AllReadyH.nil
  go_simp
  (refine (HI.out _ (I.out.ml.on (below_drewN W 1))).mono ?_; rintro e w3 ⟨rfl, hb⟩; have BC := (below_drewN W 1).trans (hb.mono (Nat.le_refl _)); have I3 := Lib.hid (I.out.below BC); have kp := Below.keep BC (fun _ => True))
  (try dsimp only)
  refine hK.out _ _ ?_ (fun hHeld1 => ?_)
  · (try dsimp only); (repeat' refine And.intro ?_ ?_) <;> exact kp _ _ trivial (by assumption)
  clear hK K hHeld0
  (try simp only [zS, zN, zT, zC, zZ])
  refine tj (i := 5) rfl ?_; (try simp only [zS, zN, zT, zC, zZ])
  refine tj (i := 6) rfl ?_; (try simp only [zS, zN, zT, zC, zZ])
  refine wpAnyH_done (by kernel_rfl) ?_ _
  (try dsimp only)
  repeat (first | go_values | go_skip | go_guarded | go_step | go_upon)
  go_wp2_with fail
  go_ret
  exact ⟨by first | rfl | (rw [← wi]; rfl), I3.out.bel⟩
set_option maxHeartbeats 8000000 in
set_option maxRecDepth 100000 in
theorem rdatas_any (m : Md) (hm : m.Few) (x : MX) (ho : x.One) (S : Nat → Prop) (w : World) (hl : MdL S w m x) :
    Calls Tryz.prog 153 #[.agg (mdA m x)] w fun e w' => e = .returned (.int .i64 ((Mc.thOf m).datas : Int)) ∧ Below w.heap.size w w' := by
  have e : (Mc.thOf m).datas = m.datas := rfl
  rw [e]
  have I0 := Lib.hid (R1.new (mv := mdA m x) hl)
  clear e hl
  go_enter Tryz.func153, Tryz.ntmps153
  go_upto_region 1 with fail
  refine at_code (F := fun W => Hid (R1 S w W m x (mdA m x))) I0 ?_
  clear I0
  intro W I
  obtain ⟨-, -, -, -, -, g10, -⟩ := mdA_cells I.out.md
  go_wp2_with fail
  go_ret
  exact ⟨rfl, I.out.bel⟩
set_option maxHeartbeats 8000000 in
set_option maxRecDepth 100000 in
theorem rmem_any (m : Md) (hm : m.Few) (x : MX) (ho : x.One) (S : Nat → Prop) (i : Int) (w : World) (hl : MdL S w m x) :
    Calls Tryz.prog 113 #[.agg (mdA m x), .int .i64 i] w fun e w' => e = .returned (.bool (Mc.inL i (Mc.thOf m).mems)) ∧ Below w.heap.size w w' := by
  obtain ⟨R, hR⟩ : ∃ R, Mc.inL i (Mc.thOf m).mems = R := ⟨_, rfl⟩
  rw [hR]
  have HI := Lib.hid (fun W (h : MdL S W m x) => rmems_any m hm x ho S W h)
  have hi := Mc.inL_iff i (Mc.thOf m).mems
  rw [hR] at hi
  obtain ⟨n, hn⟩ : ∃ n, (Mc.thOf m).mems = n := ⟨_, rfl⟩
  simp only [hn] at HI hi
  unfold mdA at HI
  have I := Lib.hid (R1.new (mv := mdA m x) hl)
  obtain ⟨⟨g0, g1, g2, g3, g4, g5⟩, g6, g7, g8, g9, g10, g11⟩ := mdA_cells I.out.md
  clear hl hn ho hm hR
  by_cases h0 : 0 ≤ i
  case neg =>
    have hr : R = false := by rw [Bool.eq_false_iff]; intro h; exact h0 (hi.1 h).1
    subst hr
    clear hi
    go_enter Tryz.func113, Tryz.ntmps113
    go_wp2
    go_ret
    exact ⟨rfl, I.out.bel⟩
  have hr : R = decide (i < (n : Int)) := by rw [Bool.eq_iff_iff, decide_eq_true_iff, hi]; exact ⟨fun h => h.2, fun h => ⟨h0, h⟩⟩
  subst hr
  clear hi
  go_enter Tryz.func113, Tryz.ntmps113
  go_wp2_with (go_at_call 150; refine (HI.out _ I.out.ml).mono ?_; rintro e w1 ⟨rfl, hb⟩; have I1 := Lib.hid (I.out.below hb))
  go_ret
  exact ⟨rfl, I1.out.bel⟩
set_option maxHeartbeats 8000000 in
set_option maxRecDepth 100000 in
theorem rtab_any (m : Md) (hm : m.Few) (x : MX) (ho : x.One) (S : Nat → Prop) (i : Int) (w : World) (hl : MdL S w m x) :
    Calls Tryz.prog 154 #[.agg (mdA m x), .int .i64 i] w fun e w' => e = .returned (.bool (Mc.inL i (Mc.thOf m).tables.length)) ∧ Below w.heap.size w w' := by
  obtain ⟨R, hR⟩ : ∃ R, Mc.inL i (Mc.thOf m).tables.length = R := ⟨_, rfl⟩
  rw [hR]
  have HI := Lib.hid (fun W (h : MdL S W m x) => rtables_any m hm x ho S W h)
  have hi := Mc.inL_iff i (Mc.thOf m).tables.length
  rw [hR] at hi
  obtain ⟨n, hn⟩ : ∃ n, (Mc.thOf m).tables.length = n := ⟨_, rfl⟩
  simp only [hn] at HI hi
  unfold mdA at HI
  have I := Lib.hid (R1.new (mv := mdA m x) hl)
  obtain ⟨⟨g0, g1, g2, g3, g4, g5⟩, g6, g7, g8, g9, g10, g11⟩ := mdA_cells I.out.md
  clear hl hn ho hm hR
  by_cases h0 : 0 ≤ i
  case neg =>
    have hr : R = false := by rw [Bool.eq_false_iff]; intro h; exact h0 (hi.1 h).1
    subst hr
    clear hi
    go_enter Tryz.func154, Tryz.ntmps154
    go_wp2
    go_ret
    exact ⟨rfl, I.out.bel⟩
  have hr : R = decide (i < (n : Int)) := by rw [Bool.eq_iff_iff, decide_eq_true_iff, hi]; exact ⟨fun h => h.2, fun h => ⟨h0, h⟩⟩
  subst hr
  clear hi
  go_enter Tryz.func154, Tryz.ntmps154
  go_wp2_with (go_at_call 202; refine (HI.out _ I.out.ml).mono ?_; rintro e w1 ⟨rfl, hb⟩; have I1 := Lib.hid (I.out.below hb))
  go_ret
  exact ⟨rfl, I1.out.bel⟩
set_option maxHeartbeats 4000000 in
set_option maxRecDepth 100000 in
theorem rplace_any (p : Pl) (regs slots : Int) (w : World) : Calls Tryz.prog 64 #[.agg #[.bool p.slot, .int .i64 p.n], .int .i64 regs, .int .i64 slots] w fun e w' => e = .returned (.bool (Mc.plOk slots regs p)) ∧ Below w.heap.size w w' := by
  obtain ⟨sl, z⟩ := p
  have V := Lib.hid (Var.new w #[.bool sl, .int .i64 z] 64)
  have HB := Lib.hid ((Below.refl w.heap.size w).alloc (Nat.le_refl _) (.cells #[.bool sl, .int .i64 z] 64))
  obtain ⟨q0, q1⟩ := cells2 V.out
  obtain ⟨R, hR⟩ : ∃ R, Mc.plOk slots regs ⟨sl, z⟩ = R := ⟨_, rfl⟩
  rw [hR]
  unfold Mc.plOk Mc.within at hR
  dsimp only at hR
  rcases sl with _ | _
  · have hi : R = true ↔ 0 ≤ z ∧ z < regs := by rw [← hR]; simp; omega
    clear hR
    by_cases h0 : 0 ≤ z
    · by_cases h1 : z < regs
      · have hr : R = true := hi.2 ⟨h0, h1⟩
        subst hr
        clear hi
        go_enter Tryz.func64, Tryz.ntmps64
        go_wp2
        go_ret
        exact ⟨rfl, HB.out⟩
      · have hr : R = false := by rw [Bool.eq_false_iff]; intro h; exact h1 (hi.1 h).2
        subst hr
        clear hi
        go_enter Tryz.func64, Tryz.ntmps64
        go_wp2
        go_ret
        exact ⟨rfl, HB.out⟩
    · have hr : R = false := by rw [Bool.eq_false_iff]; intro h; exact h0 (hi.1 h).1
      subst hr
      clear hi
      go_enter Tryz.func64, Tryz.ntmps64
      go_wp2
      go_ret
      exact ⟨rfl, HB.out⟩
  · have hi : R = true ↔ 0 ≤ z ∧ z < slots := by rw [← hR]; simp; omega
    clear hR
    by_cases h0 : 0 ≤ z
    · by_cases h1 : z < slots
      · have hr : R = true := hi.2 ⟨h0, h1⟩
        subst hr
        clear hi
        go_enter Tryz.func64, Tryz.ntmps64
        go_wp2
        go_ret
        exact ⟨rfl, HB.out⟩
      · have hr : R = false := by rw [Bool.eq_false_iff]; intro h; exact h1 (hi.1 h).2
        subst hr
        clear hi
        go_enter Tryz.func64, Tryz.ntmps64
        go_wp2
        go_ret
        exact ⟨rfl, HB.out⟩
    · have hr : R = false := by rw [Bool.eq_false_iff]; intro h; exact h0 (hi.1 h).1
      subst hr
      clear hi
      go_enter Tryz.func64, Tryz.ntmps64
      go_wp2
      go_ret
      exact ⟨rfl, HB.out⟩
end Go.Proofs.YtadnfekogmjieaaGreatDoor
set_option linter.unusedVariables false
set_option linter.unusedSimpArgs false
namespace Go.Proofs.YtadnfekogmjieaaGreatDoor
open Go.RowKit
open Mc (Pl Mi Mf Th Wt Im Md)
theorem info_need : (Tryz.prog.info? 137).map (·.size) = some 3 := by kernel_rfl
def nd3 (n : Mc.Nd) : Array Value := #[.int .i64 (n.d : Int), .int .i64 (n.s : Int), .bool n.ok]
theorem cells3f {W : World} {K : Nat} {T : TypeId} {v0 v1 v2 : Value} (h : Var W K #[v0, v1, v2] T) : W.cell? ⟨K, 0, none⟩ = some v0 ∧ W.cell? ⟨K, 1, none⟩ = some v1 ∧ W.cell? ⟨K, 2, none⟩ = some v2 ∧ W.frozen? ⟨K, 0, none⟩ = false ∧ W.frozen? ⟨K, 1, none⟩ = false ∧ W.frozen? ⟨K, 2, none⟩ = false :=
  ⟨h.cells 0, h.cells 1, h.cells 2, h.froz 0, h.froz 1, h.froz 2⟩
theorem put3 {W : World} {K : Nat} {t : TypeId} {a0 a1 a2 : Value} (h : Var W K #[a0, a1, a2] t) (b0 b1 b2 : Value) :
    Var (((W.setCell ⟨K, 0, none⟩ b0).setCell ⟨K, 1, none⟩ b1).setCell ⟨K, 2, none⟩ b2) K #[b0, b1, b2] t ∧ W.grownBy (((W.setCell ⟨K, 0, none⟩ b0).setCell ⟨K, 1, none⟩ b1).setCell ⟨K, 2, none⟩ b2) (some K) :=
  ⟨by have h7 := ((h.set 0 b0).set 1 b1).set 2 b2; simp only [List.setIfInBounds_toArray, List.set_cons_zero, List.set_cons_succ] at h7; exact h7, (grown_set _ _ _ _).trans ((grown_set _ _ _ _).trans (grown_set _ _ _ _))⟩
structure Q3 (S : Nat → Prop) (w W : World) (m : Md) (x : MX) (mv yv : Array Value) : Prop where
  bel : Below w.heap.size w W
  md : Var W w.heap.size mv 33
  mi : Var W (w.heap.size + 1) yv 61
  rs : Var W (w.heap.size + 2) #[.int .i64 0, .int .i64 0, .bool false] 137
  ml : MdL S W m x
theorem Q3.new {S : Nat → Prop} {w : World} {m : Md} {x : MX} (mv yv : Array Value) (hm : MdL S w m x) : Q3 S w (((w.alloc (.cells mv 33)).alloc (.cells yv 61)).alloc (.cells #[.int .i64 0, .int .i64 0, .bool false] 137)) m x mv yv :=
  ⟨((((Below.refl w.heap.size w).alloc (Nat.le_refl _) _).alloc (by simp) _).alloc (by simp; omega) _), ((Var.new w _ _).alloc _).alloc _, by have h := (Var.new (w.alloc (.cells mv 33)) yv 61).alloc (.cells #[.int .i64 0, .int .i64 0, .bool false] 137); simpa using h, by have h := Var.new ((w.alloc (.cells mv 33)).alloc (.cells yv 61)) #[.int .i64 0, .int .i64 0, .bool false] 137; simpa using h, hm.on ((((Below.refl w.heap.size w).alloc (Nat.le_refl _) _).alloc (by simp) _).alloc (by simp; omega) _)⟩
theorem Q3.below {S : Nat → Prop} {w W W' : World} {m : Md} {x : MX} {mv yv : Array Value} (h : Q3 S w W m x mv yv) (hb : Below W.heap.size W W') : Q3 S w W' m x mv yv := ⟨h.bel.trans (hb.mono h.bel.size), var_keep h.md hb, var_keep h.mi hb, var_keep h.rs hb, h.ml.on hb⟩
theorem Q3.fr {S : Nat → Prop} {w W : World} {m : Md} {x : MX} {mv yv : Array Value} {b0 b1 b2 : Value} (h : Q3 S w W m x mv yv) : Var (((W.setCell ⟨w.heap.size + 2, 0, none⟩ b0).setCell ⟨w.heap.size + 2, 1, none⟩ b1).setCell ⟨w.heap.size + 2, 2, none⟩ b2) (w.heap.size + 2) #[b0, b1, b2] 137 := (put3 h.rs _ _ _).1
theorem Q3.fb {S : Nat → Prop} {w W : World} {m : Md} {x : MX} {mv yv : Array Value} {b0 b1 b2 : Value} (h : Q3 S w W m x mv yv) : Below w.heap.size w (((W.setCell ⟨w.heap.size + 2, 0, none⟩ b0).setCell ⟨w.heap.size + 2, 1, none⟩ b1).setCell ⟨w.heap.size + 2, 2, none⟩ b2) := below_grown h.bel (put3 h.rs _ _ _).2 h.bel.size (by omega)
set_option maxHeartbeats 8000000 in
set_option maxRecDepth 100000 in
theorem rbulk_any (m : Md) (hm : m.Few) (x : MX) (ho : x.One) (S : Nat → Prop) (y : Mi) (D : Option Addr) (c1 : Nat) (E : Option Addr) (c2 : Nat) (T : Option Addr) (c3 : Nat) (w : World) (hl : MdL S w m x) :
    Calls Tryz.prog 115 #[.agg (mdA m x), .agg (miV y D c1 E c2 T c3)] w fun e w' => e = .returned (.agg (nd3 (Mc.ndOf (Mc.bulkW (Mc.thOf m) y)))) ∧ Below w.heap.size w w' := by
  obtain ⟨R, hR⟩ : ∃ R, Mc.ndOf (Mc.bulkW (Mc.thOf m) y) = R := ⟨_, rfl⟩
  rw [hR]
  unfold Mc.bulkW at hR
  have HMa := Lib.hid (fun W (h : MdL S W m x) => rmem_any m hm x ho S y.a W h)
  have HMb := Lib.hid (fun W (h : MdL S W m x) => rmem_any m hm x ho S y.b W h)
  have HDa := Lib.hid (fun W (h : MdL S W m x) => rdatas_any m hm x ho S W h)
  have hia := Mc.inL_iff y.a (Mc.thOf m).datas
  obtain ⟨qa, eqa⟩ : ∃ q, Mc.inL y.a (Mc.thOf m).mems = q := ⟨_, rfl⟩
  obtain ⟨qb, eqb⟩ : ∃ q, Mc.inL y.b (Mc.thOf m).mems = q := ⟨_, rfl⟩
  obtain ⟨qd, eqd⟩ : ∃ q, Mc.inL y.a (Mc.thOf m).datas = q := ⟨_, rfl⟩
  obtain ⟨nd, end_⟩ : ∃ q, (Mc.thOf m).datas = q := ⟨_, rfl⟩
  rw [eqa, eqb, eqd] at hR
  simp only [eqa] at HMa
  simp only [eqb] at HMb
  rw [eqd] at hia
  simp only [end_] at HDa hia
  unfold mdA at HMa HMb HDa
  have I0 := Lib.hid (Q3.new (mdA m x) (miV y D c1 E c2 T c3) hl)
  clear hl ho hm eqa eqb eqd end_
  go_enter Tryz.func115, Tryz.ntmps115
  go_upto_region 1 with fail
  refine at_code (F := fun W => Hid (Q3 S w W m x (mdA m x) (miV y D c1 E c2 T c3))) I0 ?_
  clear I0
  intro W I
  obtain ⟨⟨g0, g1, g2, g3, g4, g5⟩, g6, g7, g8, g9, g10, g11⟩ := mdA_cells I.out.md
  obtain ⟨m0, m1, m2, m3, m4, m5, m6, m7, m8⟩ := miV_cells I.out.mi
  obtain ⟨r0, r1, r2, z0, z1, z2⟩ := cells3f I.out.rs
  have hlt := I.out.rs.lt
  by_cases o1 : y.op = 64523
  · rw [if_pos o1] at hR
    rw [o1] at m1
    rcases ha : (y.a == 0) with _ | _
    all_goals rw [ha] at hR
    · go_wp2_with fail
      refine bodyPost_ret (results_cell_row rfl _ _ (w.heap.size + 2) _ _ (0, 0) _ rfl I.out.fr Tryz.underlying137 rfl (by kernel_rfl)) rfl ?_
      exact ⟨by rw [← hR]; first | rfl | simp [nd3, Mc.ndOf, Mc.wt0, Mc.nd0], I.out.fb⟩
    · clear HMa
      go_wp2_with (first | (go_at_call 113; with_reducible refine (HMa.out _ I.out.ml).mono ?_; rintro e w5 ⟨rfl, hb⟩; have J := Lib.hid (I.out.below hb); clear hb I g0 g1 g2 g3 g4 g5 g6 g7 g8 g9 g10 g11 m0 m1 m2 m3 m4 m5 m6 m7 m8 r0 r1 r2 z0 z1 z2 hlt; obtain ⟨⟨g0, g1, g2, g3, g4, g5⟩, g6, g7, g8, g9, g10, g11⟩ := mdA_cells J.out.md; obtain ⟨m0, m1, m2, m3, m4, m5, m6, m7, m8⟩ := miV_cells J.out.mi; obtain ⟨r0, r1, r2, z0, z1, z2⟩ := cells3f J.out.rs; have hlt := J.out.rs.lt) | (go_at_call 113; with_reducible refine (HMb.out _ I.out.ml).mono ?_; rintro e w5 ⟨rfl, hb⟩; have J := Lib.hid (I.out.below hb); clear hb I g0 g1 g2 g3 g4 g5 g6 g7 g8 g9 g10 g11 m0 m1 m2 m3 m4 m5 m6 m7 m8 r0 r1 r2 z0 z1 z2 hlt; obtain ⟨⟨g0, g1, g2, g3, g4, g5⟩, g6, g7, g8, g9, g10, g11⟩ := mdA_cells J.out.md; obtain ⟨m0, m1, m2, m3, m4, m5, m6, m7, m8⟩ := miV_cells J.out.mi; obtain ⟨r0, r1, r2, z0, z1, z2⟩ := cells3f J.out.rs; have hlt := J.out.rs.lt) | (go_at_call 113; with_reducible refine (HMb.out _ J.out.ml).mono ?_; rintro e w6 ⟨rfl, hb⟩; have J2 := Lib.hid (J.out.below hb); clear hb J g0 g1 g2 g3 g4 g5 g6 g7 g8 g9 g10 g11 m0 m1 m2 m3 m4 m5 m6 m7 m8 r0 r1 r2 z0 z1 z2 hlt; obtain ⟨⟨g0, g1, g2, g3, g4, g5⟩, g6, g7, g8, g9, g10, g11⟩ := mdA_cells J2.out.md; obtain ⟨m0, m1, m2, m3, m4, m5, m6, m7, m8⟩ := miV_cells J2.out.mi; obtain ⟨r0, r1, r2, z0, z1, z2⟩ := cells3f J2.out.rs; have hlt := J2.out.rs.lt))
      refine bodyPost_ret (results_cell_row rfl _ _ (w.heap.size + 2) _ _ (0, 0) _ rfl J.out.fr Tryz.underlying137 rfl (by kernel_rfl)) rfl ?_
      exact ⟨by rw [← hR]; first | rfl | simp [nd3, Mc.ndOf, Mc.wt0, Mc.nd0], J.out.fb⟩
  rw [if_neg o1] at hR
  have b1 : (y.op == 64523) = false := by rw [beq_eq_false_iff_ne]; exact o1
  by_cases o2 : y.op = 64522
  · rw [if_pos o2] at hR
    rw [o2] at m1
    rcases qa with _ | _
    · go_wp2_with (first | (go_at_call 113; with_reducible refine (HMa.out _ I.out.ml).mono ?_; rintro e w5 ⟨rfl, hb⟩; have J := Lib.hid (I.out.below hb); clear hb I g0 g1 g2 g3 g4 g5 g6 g7 g8 g9 g10 g11 m0 m1 m2 m3 m4 m5 m6 m7 m8 r0 r1 r2 z0 z1 z2 hlt; obtain ⟨⟨g0, g1, g2, g3, g4, g5⟩, g6, g7, g8, g9, g10, g11⟩ := mdA_cells J.out.md; obtain ⟨m0, m1, m2, m3, m4, m5, m6, m7, m8⟩ := miV_cells J.out.mi; obtain ⟨r0, r1, r2, z0, z1, z2⟩ := cells3f J.out.rs; have hlt := J.out.rs.lt) | (go_at_call 113; with_reducible refine (HMb.out _ I.out.ml).mono ?_; rintro e w5 ⟨rfl, hb⟩; have J := Lib.hid (I.out.below hb); clear hb I g0 g1 g2 g3 g4 g5 g6 g7 g8 g9 g10 g11 m0 m1 m2 m3 m4 m5 m6 m7 m8 r0 r1 r2 z0 z1 z2 hlt; obtain ⟨⟨g0, g1, g2, g3, g4, g5⟩, g6, g7, g8, g9, g10, g11⟩ := mdA_cells J.out.md; obtain ⟨m0, m1, m2, m3, m4, m5, m6, m7, m8⟩ := miV_cells J.out.mi; obtain ⟨r0, r1, r2, z0, z1, z2⟩ := cells3f J.out.rs; have hlt := J.out.rs.lt) | (go_at_call 113; with_reducible refine (HMb.out _ J.out.ml).mono ?_; rintro e w6 ⟨rfl, hb⟩; have J2 := Lib.hid (J.out.below hb); clear hb J g0 g1 g2 g3 g4 g5 g6 g7 g8 g9 g10 g11 m0 m1 m2 m3 m4 m5 m6 m7 m8 r0 r1 r2 z0 z1 z2 hlt; obtain ⟨⟨g0, g1, g2, g3, g4, g5⟩, g6, g7, g8, g9, g10, g11⟩ := mdA_cells J2.out.md; obtain ⟨m0, m1, m2, m3, m4, m5, m6, m7, m8⟩ := miV_cells J2.out.mi; obtain ⟨r0, r1, r2, z0, z1, z2⟩ := cells3f J2.out.rs; have hlt := J2.out.rs.lt))
      refine bodyPost_ret (results_cell_row rfl _ _ (w.heap.size + 2) _ _ (0, 0) _ rfl J.out.fr Tryz.underlying137 rfl (by kernel_rfl)) rfl ?_
      exact ⟨by rw [← hR]; first | rfl | simp [nd3, Mc.ndOf, Mc.wt0, Mc.nd0], J.out.fb⟩
    · go_wp2_with (first | (go_at_call 113; with_reducible refine (HMa.out _ I.out.ml).mono ?_; rintro e w5 ⟨rfl, hb⟩; have J := Lib.hid (I.out.below hb); clear hb I g0 g1 g2 g3 g4 g5 g6 g7 g8 g9 g10 g11 m0 m1 m2 m3 m4 m5 m6 m7 m8 r0 r1 r2 z0 z1 z2 hlt; obtain ⟨⟨g0, g1, g2, g3, g4, g5⟩, g6, g7, g8, g9, g10, g11⟩ := mdA_cells J.out.md; obtain ⟨m0, m1, m2, m3, m4, m5, m6, m7, m8⟩ := miV_cells J.out.mi; obtain ⟨r0, r1, r2, z0, z1, z2⟩ := cells3f J.out.rs; have hlt := J.out.rs.lt) | (go_at_call 113; with_reducible refine (HMb.out _ I.out.ml).mono ?_; rintro e w5 ⟨rfl, hb⟩; have J := Lib.hid (I.out.below hb); clear hb I g0 g1 g2 g3 g4 g5 g6 g7 g8 g9 g10 g11 m0 m1 m2 m3 m4 m5 m6 m7 m8 r0 r1 r2 z0 z1 z2 hlt; obtain ⟨⟨g0, g1, g2, g3, g4, g5⟩, g6, g7, g8, g9, g10, g11⟩ := mdA_cells J.out.md; obtain ⟨m0, m1, m2, m3, m4, m5, m6, m7, m8⟩ := miV_cells J.out.mi; obtain ⟨r0, r1, r2, z0, z1, z2⟩ := cells3f J.out.rs; have hlt := J.out.rs.lt) | (go_at_call 113; with_reducible refine (HMb.out _ J.out.ml).mono ?_; rintro e w6 ⟨rfl, hb⟩; have J2 := Lib.hid (J.out.below hb); clear hb J g0 g1 g2 g3 g4 g5 g6 g7 g8 g9 g10 g11 m0 m1 m2 m3 m4 m5 m6 m7 m8 r0 r1 r2 z0 z1 z2 hlt; obtain ⟨⟨g0, g1, g2, g3, g4, g5⟩, g6, g7, g8, g9, g10, g11⟩ := mdA_cells J2.out.md; obtain ⟨m0, m1, m2, m3, m4, m5, m6, m7, m8⟩ := miV_cells J2.out.mi; obtain ⟨r0, r1, r2, z0, z1, z2⟩ := cells3f J2.out.rs; have hlt := J2.out.rs.lt))
      refine bodyPost_ret (results_cell_row rfl _ _ (w.heap.size + 2) _ _ (0, 0) _ rfl J2.out.fr Tryz.underlying137 rfl (by kernel_rfl)) rfl ?_
      exact ⟨by rw [← hR]; first | rfl | simp [nd3, Mc.ndOf, Mc.wt0, Mc.nd0], J2.out.fb⟩
  rw [if_neg o2] at hR
  have b2 : (y.op == 64522) = false := by rw [beq_eq_false_iff_ne]; exact o2
  by_cases o3 : y.op = 64520
  · rw [if_pos o3] at hR
    rw [o3] at m1
    go_upto_region 7 with fail
    by_cases x0 : 0 ≤ y.a
    case neg =>
      have hqd : qd = false := by rw [Bool.eq_false_iff]; intro h; exact x0 (hia.1 h).1
      subst hqd
      clear hia
      have VRs : (World.drew W).heap[w.heap.size + 2]? = some (.cells #[.int .i64 0, .int .i64 0, .bool false] 137 (0, 0)) := I.out.rs
      refine wp_region_held_drew (S := (fun W' => W'.cell? ⟨w.heap.size, 0, none⟩ = some (.slice x.TA m.types.length x.tc) ∧ W'.cell? ⟨w.heap.size, 1, none⟩ = some (.slice x.IA m.imps.length x.ic) ∧ W'.cell? ⟨w.heap.size, 2, none⟩ = some (.slice x.FA m.funcs.length x.fc) ∧ W'.cell? ⟨w.heap.size, 3, none⟩ = some (.slice x.BA m.tables.length x.bc) ∧ W'.cell? ⟨w.heap.size, 4, none⟩ = some (.slice x.MA m.mems x.mc) ∧ W'.cell? ⟨w.heap.size, 5, none⟩ = some (.slice x.GA m.globals.length x.gc) ∧ W'.cell? ⟨w.heap.size, 6, none⟩ = some (x.v6) ∧ W'.cell? ⟨w.heap.size, 7, none⟩ = some (x.v7) ∧ W'.cell? ⟨w.heap.size, 8, none⟩ = some (x.v8) ∧ W'.cell? ⟨w.heap.size, 9, none⟩ = some (.slice x.EA m.elems x.ec) ∧ W'.cell? ⟨w.heap.size, 10, none⟩ = some (.slice x.DA m.datas x.dc) ∧ W'.cell? ⟨w.heap.size, 11, none⟩ = some (x.v11) ∧ W'.cell? ⟨w.heap.size + 1, 2, none⟩ = some (.int .i64 y.a) ∧ W'.cell? ⟨w.heap.size + 1, 3, none⟩ = some (.int .i64 y.b))) (by kernel_rfl) ?_ (fun hHeld0 => ?_)
      · exact ⟨g0, g1, g2, g3, g4, g5, g6, g7, g8, g9, g10, g11, m2, m3⟩
      refine tj (i := 0) rfl ?_; (try simp only [zS, zN, zT, zC, zZ])
      refine tj (i := 1) rfl ?_; (try simp only [zS, zN, zT, zC, zZ])
      refine tj (i := 2) (v := .bool false) rfl ?_ (hy := by intro w hSw; (try dsimp only at hSw); go_simp; (try first | rfl | (simp [x0]) | omega)); (try simp only [zS, zN, zT, zC, zZ])
      refine tj (i := 3) rfl ?_; (try simp only [zS, zN, zT, zC, zZ])
      refine tjN (i := 4) rfl ?_; (try simp only [zS, zN, zT, zC, zZ])
      refine tjN (i := 5) rfl ?_; (try simp only [zS, zN, zT, zC, zZ])
      refine tjN (i := 6) rfl ?_; (try simp only [zS, zN, zT, zC, zZ])
      refine tjN (i := 7) rfl ?_; (try simp only [zS, zN, zT, zC, zZ])
      refine tjN (i := 8) rfl ?_; (try simp only [zS, zN, zT, zC, zZ])
      refine tj (i := 9) rfl ?_; (try simp only [zS, zN, zT, zC, zZ])
      refine tj (i := 10) rfl ?_; (try simp only [zS, zN, zT, zC, zZ])
      refine tjN (i := 11) rfl ?_; (try simp only [zS, zN, zT, zC, zZ])
      refine tjN (i := 12) rfl ?_; (try simp only [zS, zN, zT, zC, zZ])
      refine tjN (i := 13) rfl ?_; (try simp only [zS, zN, zT, zC, zZ])
      refine tjN (i := 14) rfl ?_; (try simp only [zS, zN, zT, zC, zZ])
      refine tj (i := 15) rfl ?_; (try simp only [zS, zN, zT, zC, zZ])
      refine tj (i := 16) rfl ?_; (try simp only [zS, zN, zT, zC, zZ])
      refine wpAnyH_ready (rs := [17]) (by kernel_rfl) (by simp) ?_
      refine AllReadyH.cons rfl (fun K hK => ?_) AllReadyH.nil
      (rw [if_pos (by rfl)]; refine wp_store_row 137 (.tmp 4) (.tmp 50) rfl (w.heap.size + 2) #[.int .i64 0, .int .i64 3, .bool false] rfl rfl 137 #[.int .i64 0, .int .i64 0, .bool false] VRs info_need rfl (by simp [Value.oneCell']) ?_; have gR := setRow_grown (World.drew W) (w.heap.size + 2) #[.int .i64 0, .int .i64 3, .bool false])
      (try dsimp only)
      refine hK.out _ _ ?_ (fun hHeld1 => ?_)
      · (try dsimp only); (repeat' refine And.intro ?_ ?_) <;> exact gR.cell (by assumption) (by intro e; injection e with e; dsimp only at e; omega)
      clear hK K hHeld0
      (try simp only [zS, zN, zT, zC, zZ])
      refine wpAnyH_done (by kernel_rfl) ?_ _
      (try dsimp only)
      repeat (first | go_values | go_skip | go_guarded | go_step | go_upon)
      refine bodyPost_ret (results_cell_row rfl _ _ (w.heap.size + 2) _ #[.int .i64 0, .int .i64 3, .bool false] (0, 0) _ rfl (setRow_heap (World.drew W) (w.heap.size + 2) #[.int .i64 0, .int .i64 0, .bool false] _ _ (0, 0) VRs) Tryz.underlying137 rfl (by kernel_rfl)) rfl ?_
      have BD := (I.out.bel.trans ((below_drewN W 1).mono I.out.bel.size))
      exact ⟨by rw [← hR]; first | rfl | simp [nd3, Mc.ndOf], below_grown BD (setRow_grown (World.drew W) (w.heap.size + 2) #[.int .i64 0, .int .i64 3, .bool false]) BD.size (by omega)⟩
    by_cases x1 : y.a < (nd : Int)
    case neg =>
      have hqd : qd = false := by rw [Bool.eq_false_iff]; intro h; exact x1 (hia.1 h).2
      subst hqd
      clear hia
      have VRs : (World.drew W).heap[w.heap.size + 2]? = some (.cells #[.int .i64 0, .int .i64 0, .bool false] 137 (0, 0)) := I.out.rs
      refine wp_region_held_drew (S := (fun W' => W'.cell? ⟨w.heap.size, 0, none⟩ = some (.slice x.TA m.types.length x.tc) ∧ W'.cell? ⟨w.heap.size, 1, none⟩ = some (.slice x.IA m.imps.length x.ic) ∧ W'.cell? ⟨w.heap.size, 2, none⟩ = some (.slice x.FA m.funcs.length x.fc) ∧ W'.cell? ⟨w.heap.size, 3, none⟩ = some (.slice x.BA m.tables.length x.bc) ∧ W'.cell? ⟨w.heap.size, 4, none⟩ = some (.slice x.MA m.mems x.mc) ∧ W'.cell? ⟨w.heap.size, 5, none⟩ = some (.slice x.GA m.globals.length x.gc) ∧ W'.cell? ⟨w.heap.size, 6, none⟩ = some (x.v6) ∧ W'.cell? ⟨w.heap.size, 7, none⟩ = some (x.v7) ∧ W'.cell? ⟨w.heap.size, 8, none⟩ = some (x.v8) ∧ W'.cell? ⟨w.heap.size, 9, none⟩ = some (.slice x.EA m.elems x.ec) ∧ W'.cell? ⟨w.heap.size, 10, none⟩ = some (.slice x.DA m.datas x.dc) ∧ W'.cell? ⟨w.heap.size, 11, none⟩ = some (x.v11) ∧ W'.cell? ⟨w.heap.size + 1, 2, none⟩ = some (.int .i64 y.a) ∧ W'.cell? ⟨w.heap.size + 1, 3, none⟩ = some (.int .i64 y.b))) (by kernel_rfl) ?_ (fun hHeld0 => ?_)
      · exact ⟨g0, g1, g2, g3, g4, g5, g6, g7, g8, g9, g10, g11, m2, m3⟩
      refine tj (i := 0) rfl ?_; (try simp only [zS, zN, zT, zC, zZ])
      refine tj (i := 1) rfl ?_; (try simp only [zS, zN, zT, zC, zZ])
      refine tj (i := 2) (v := .bool true) rfl ?_ (hy := by intro w hSw; (try dsimp only at hSw); go_simp; (try first | rfl | (simp [x0]) | omega)); (try simp only [zS, zN, zT, zC, zZ])
      refine tj (i := 3) rfl ?_; (try simp only [zS, zN, zT, zC, zZ])
      refine tj (i := 4) rfl ?_; (try simp only [zS, zN, zT, zC, zZ])
      refine tj (i := 5) rfl ?_; (try simp only [zS, zN, zT, zC, zZ])
      refine tj (i := 6) rfl ?_; (try simp only [zS, zN, zT, zC, zZ])
      refine wpAnyH_ready (rs := [7]) (by kernel_rfl) (by simp) ?_
      refine AllReadyH.cons rfl (fun K hK => ?_) AllReadyH.nil
      go_simp
      (refine (HDa.out _ (I.out.ml.on (below_drewN W 1))).mono ?_; rintro e w5 ⟨rfl, hb⟩; have J5 := Lib.hid (I.out.below ((below_drewN W 1).trans (hb.mono (Nat.le_refl _)))); clear hb g0 g1 g2 g3 g4 g5 g6 g7 g8 g9 g10 g11 m0 m1 m2 m3 m4 m5 m6 m7 m8 r0 r1 r2 z0 z1 z2 hlt; obtain ⟨⟨g0, g1, g2, g3, g4, g5⟩, g6, g7, g8, g9, g10, g11⟩ := mdA_cells J5.out.md; obtain ⟨m0, m1, m2, m3, m4, m5, m6, m7, m8⟩ := miV_cells J5.out.mi; obtain ⟨r0, r1, r2, z0, z1, z2⟩ := cells3f J5.out.rs; have hlt := J5.out.rs.lt; have VR0 : w5.heap[w.heap.size + 2]? = some (.cells #[.int .i64 0, .int .i64 0, .bool false] 137 (0, 0)) := J5.out.rs)
      (try dsimp only)
      refine hK.out _ _ ?_ (fun hHeld1 => ?_)
      · exact ⟨g0, g1, g2, g3, g4, g5, g6, g7, g8, g9, g10, g11, m2, m3⟩
      clear hK K hHeld0
      (try simp only [zS, zN, zT, zC, zZ])
      refine tj (i := 8) (v := .bool false) rfl ?_ (hy := by intro w hSw; (try dsimp only at hSw); go_simp; (try first | rfl | (simp [x1]) | omega)); (try simp only [zS, zN, zT, zC, zZ])
      refine tj (i := 9) rfl ?_; (try simp only [zS, zN, zT, zC, zZ])
      refine tj (i := 10) rfl ?_; (try simp only [zS, zN, zT, zC, zZ])
      refine tjN (i := 11) rfl ?_; (try simp only [zS, zN, zT, zC, zZ])
      refine tjN (i := 12) rfl ?_; (try simp only [zS, zN, zT, zC, zZ])
      refine tjN (i := 13) rfl ?_; (try simp only [zS, zN, zT, zC, zZ])
      refine tjN (i := 14) rfl ?_; (try simp only [zS, zN, zT, zC, zZ])
      refine tj (i := 15) rfl ?_; (try simp only [zS, zN, zT, zC, zZ])
      refine tj (i := 16) rfl ?_; (try simp only [zS, zN, zT, zC, zZ])
      refine wpAnyH_ready (rs := [17]) (by kernel_rfl) (by simp) ?_
      refine AllReadyH.cons rfl (fun K hK => ?_) AllReadyH.nil
      (rw [if_pos (by rfl)]; refine wp_store_row 137 (.tmp 4) (.tmp 50) rfl (w.heap.size + 2) #[.int .i64 0, .int .i64 3, .bool false] rfl rfl 137 #[.int .i64 0, .int .i64 0, .bool false] VR0 info_need rfl (by simp [Value.oneCell']) ?_; have gR := setRow_grown w5 (w.heap.size + 2) #[.int .i64 0, .int .i64 3, .bool false])
      (try dsimp only)
      refine hK.out _ _ ?_ (fun hHeld2 => ?_)
      · (try dsimp only); (repeat' refine And.intro ?_ ?_) <;> exact gR.cell (by assumption) (by intro e; injection e with e; dsimp only at e; omega)
      clear hK K hHeld1
      (try simp only [zS, zN, zT, zC, zZ])
      refine wpAnyH_done (by kernel_rfl) ?_ _
      (try dsimp only)
      repeat (first | go_values | go_skip | go_guarded | go_step | go_upon)
      refine bodyPost_ret (results_cell_row rfl _ _ (w.heap.size + 2) _ #[.int .i64 0, .int .i64 3, .bool false] (0, 0) _ rfl (setRow_heap w5 (w.heap.size + 2) #[.int .i64 0, .int .i64 0, .bool false] _ _ (0, 0) VR0) Tryz.underlying137 rfl (by kernel_rfl)) rfl ?_
      have BD := J5.out.bel
      exact ⟨by rw [← hR]; first | rfl | simp [nd3, Mc.ndOf], below_grown BD (setRow_grown w5 (w.heap.size + 2) #[.int .i64 0, .int .i64 3, .bool false]) BD.size (by omega)⟩
    have hqd : qd = true := hia.2 ⟨x0, x1⟩
    subst hqd
    clear hia
    have VRs : (World.drew W).heap[w.heap.size + 2]? = some (.cells #[.int .i64 0, .int .i64 0, .bool false] 137 (0, 0)) := I.out.rs
    refine wp_region_held_drew (S := (fun W' => W'.cell? ⟨w.heap.size, 0, none⟩ = some (.slice x.TA m.types.length x.tc) ∧ W'.cell? ⟨w.heap.size, 1, none⟩ = some (.slice x.IA m.imps.length x.ic) ∧ W'.cell? ⟨w.heap.size, 2, none⟩ = some (.slice x.FA m.funcs.length x.fc) ∧ W'.cell? ⟨w.heap.size, 3, none⟩ = some (.slice x.BA m.tables.length x.bc) ∧ W'.cell? ⟨w.heap.size, 4, none⟩ = some (.slice x.MA m.mems x.mc) ∧ W'.cell? ⟨w.heap.size, 5, none⟩ = some (.slice x.GA m.globals.length x.gc) ∧ W'.cell? ⟨w.heap.size, 6, none⟩ = some (x.v6) ∧ W'.cell? ⟨w.heap.size, 7, none⟩ = some (x.v7) ∧ W'.cell? ⟨w.heap.size, 8, none⟩ = some (x.v8) ∧ W'.cell? ⟨w.heap.size, 9, none⟩ = some (.slice x.EA m.elems x.ec) ∧ W'.cell? ⟨w.heap.size, 10, none⟩ = some (.slice x.DA m.datas x.dc) ∧ W'.cell? ⟨w.heap.size, 11, none⟩ = some (x.v11) ∧ W'.cell? ⟨w.heap.size + 1, 2, none⟩ = some (.int .i64 y.a) ∧ W'.cell? ⟨w.heap.size + 1, 3, none⟩ = some (.int .i64 y.b))) (by kernel_rfl) ?_ (fun hHeld0 => ?_)
    · exact ⟨g0, g1, g2, g3, g4, g5, g6, g7, g8, g9, g10, g11, m2, m3⟩
    refine tj (i := 0) rfl ?_; (try simp only [zS, zN, zT, zC, zZ])
    refine tj (i := 1) rfl ?_; (try simp only [zS, zN, zT, zC, zZ])
    refine tj (i := 2) (v := .bool true) rfl ?_ (hy := by intro w hSw; (try dsimp only at hSw); go_simp; (try first | rfl | (simp [x0]) | omega)); (try simp only [zS, zN, zT, zC, zZ])
    refine tj (i := 3) rfl ?_; (try simp only [zS, zN, zT, zC, zZ])
    refine tj (i := 4) rfl ?_; (try simp only [zS, zN, zT, zC, zZ])
    refine tj (i := 5) rfl ?_; (try simp only [zS, zN, zT, zC, zZ])
    refine tj (i := 6) rfl ?_; (try simp only [zS, zN, zT, zC, zZ])
    refine wpAnyH_ready (rs := [7]) (by kernel_rfl) (by simp) ?_
    refine AllReadyH.cons rfl (fun K hK => ?_) AllReadyH.nil
    go_simp
    (refine (HDa.out _ (I.out.ml.on (below_drewN W 1))).mono ?_; rintro e w5 ⟨rfl, hb⟩; have J5 := Lib.hid (I.out.below ((below_drewN W 1).trans (hb.mono (Nat.le_refl _)))); clear hb g0 g1 g2 g3 g4 g5 g6 g7 g8 g9 g10 g11 m0 m1 m2 m3 m4 m5 m6 m7 m8 r0 r1 r2 z0 z1 z2 hlt; obtain ⟨⟨g0, g1, g2, g3, g4, g5⟩, g6, g7, g8, g9, g10, g11⟩ := mdA_cells J5.out.md; obtain ⟨m0, m1, m2, m3, m4, m5, m6, m7, m8⟩ := miV_cells J5.out.mi; obtain ⟨r0, r1, r2, z0, z1, z2⟩ := cells3f J5.out.rs; have hlt := J5.out.rs.lt; have VR0 : w5.heap[w.heap.size + 2]? = some (.cells #[.int .i64 0, .int .i64 0, .bool false] 137 (0, 0)) := J5.out.rs)
    (try dsimp only)
    refine hK.out _ _ ?_ (fun hHeld1 => ?_)
    · exact ⟨g0, g1, g2, g3, g4, g5, g6, g7, g8, g9, g10, g11, m2, m3⟩
    clear hK K hHeld0
    (try simp only [zS, zN, zT, zC, zZ])
    refine tj (i := 8) (v := .bool true) rfl ?_ (hy := by intro w hSw; (try dsimp only at hSw); go_simp; (try first | rfl | (simp [x1]) | omega)); (try simp only [zS, zN, zT, zC, zZ])
    refine tj (i := 9) rfl ?_; (try simp only [zS, zN, zT, zC, zZ])
    refine tj (i := 10) rfl ?_; (try simp only [zS, zN, zT, zC, zZ])
    refine tj (i := 11) rfl ?_; (try simp only [zS, zN, zT, zC, zZ])
    refine tj (i := 12) rfl ?_; (try simp only [zS, zN, zT, zC, zZ])
    refine tj (i := 13) rfl ?_; (try simp only [zS, zN, zT, zC, zZ])
    refine wpAnyH_ready (rs := [14]) (by kernel_rfl) (by simp) ?_
    refine AllReadyH.cons rfl (fun K hK => ?_) AllReadyH.nil
    go_simp
    (refine (HMb.out _ J5.out.ml).mono ?_; rintro e w6 ⟨rfl, hb⟩; have J6 := Lib.hid (J5.out.below hb); clear hb g0 g1 g2 g3 g4 g5 g6 g7 g8 g9 g10 g11 m0 m1 m2 m3 m4 m5 m6 m7 m8 r0 r1 r2 z0 z1 z2 hlt; obtain ⟨⟨g0, g1, g2, g3, g4, g5⟩, g6, g7, g8, g9, g10, g11⟩ := mdA_cells J6.out.md; obtain ⟨m0, m1, m2, m3, m4, m5, m6, m7, m8⟩ := miV_cells J6.out.mi; obtain ⟨r0, r1, r2, z0, z1, z2⟩ := cells3f J6.out.rs; have hlt := J6.out.rs.lt; have VR1 : w6.heap[w.heap.size + 2]? = some (.cells #[.int .i64 0, .int .i64 0, .bool false] 137 (0, 0)) := J6.out.rs)
    (try dsimp only)
    refine hK.out _ _ ?_ (fun hHeld2 => ?_)
    · exact ⟨g0, g1, g2, g3, g4, g5, g6, g7, g8, g9, g10, g11, m2, m3⟩
    clear hK K hHeld1
    (try simp only [zS, zN, zT, zC, zZ])
    refine tj (i := 15) rfl ?_; (try simp only [zS, zN, zT, zC, zZ])
    refine tj (i := 16) rfl ?_; (try simp only [zS, zN, zT, zC, zZ])
    refine wpAnyH_ready (rs := [17]) (by kernel_rfl) (by simp) ?_
    refine AllReadyH.cons rfl (fun K hK => ?_) AllReadyH.nil
    (rw [if_pos (by rfl)]; refine wp_store_row 137 (.tmp 4) (.tmp 50) rfl (w.heap.size + 2) #[.int .i64 0, .int .i64 3, .bool qb] rfl rfl 137 #[.int .i64 0, .int .i64 0, .bool false] VR1 info_need rfl (by simp [Value.oneCell']) ?_; have gR := setRow_grown w6 (w.heap.size + 2) #[.int .i64 0, .int .i64 3, .bool qb])
    (try dsimp only)
    refine hK.out _ _ ?_ (fun hHeld3 => ?_)
    · (try dsimp only); (repeat' refine And.intro ?_ ?_) <;> exact gR.cell (by assumption) (by intro e; injection e with e; dsimp only at e; omega)
    clear hK K hHeld2
    (try simp only [zS, zN, zT, zC, zZ])
    refine wpAnyH_done (by kernel_rfl) ?_ _
    (try dsimp only)
    repeat (first | go_values | go_skip | go_guarded | go_step | go_upon)
    refine bodyPost_ret (results_cell_row rfl _ _ (w.heap.size + 2) _ #[.int .i64 0, .int .i64 3, .bool qb] (0, 0) _ rfl (setRow_heap w6 (w.heap.size + 2) #[.int .i64 0, .int .i64 0, .bool false] _ _ (0, 0) VR1) Tryz.underlying137 rfl (by kernel_rfl)) rfl ?_
    have BD := J6.out.bel
    exact ⟨by rw [← hR]; first | rfl | simp [nd3, Mc.ndOf], below_grown BD (setRow_grown w6 (w.heap.size + 2) #[.int .i64 0, .int .i64 3, .bool qb]) BD.size (by omega)⟩
  rw [if_neg o3] at hR
  have b3 : (y.op == 64520) = false := by rw [beq_eq_false_iff_ne]; exact o3
  by_cases o4 : y.op = 64521
  · rw [if_pos o4] at hR
    rw [o4] at m1
    go_upto_region 9 with fail
    by_cases x0 : 0 ≤ y.a
    case neg =>
      have hqd : qd = false := by rw [Bool.eq_false_iff]; intro h; exact x0 (hia.1 h).1
      subst hqd
      clear hia
      have VRs : (World.drew W).heap[w.heap.size + 2]? = some (.cells #[.int .i64 0, .int .i64 0, .bool false] 137 (0, 0)) := I.out.rs
      refine wp_region_held_drew (S := (fun W' => W'.cell? ⟨w.heap.size, 0, none⟩ = some (.slice x.TA m.types.length x.tc) ∧ W'.cell? ⟨w.heap.size, 1, none⟩ = some (.slice x.IA m.imps.length x.ic) ∧ W'.cell? ⟨w.heap.size, 2, none⟩ = some (.slice x.FA m.funcs.length x.fc) ∧ W'.cell? ⟨w.heap.size, 3, none⟩ = some (.slice x.BA m.tables.length x.bc) ∧ W'.cell? ⟨w.heap.size, 4, none⟩ = some (.slice x.MA m.mems x.mc) ∧ W'.cell? ⟨w.heap.size, 5, none⟩ = some (.slice x.GA m.globals.length x.gc) ∧ W'.cell? ⟨w.heap.size, 6, none⟩ = some (x.v6) ∧ W'.cell? ⟨w.heap.size, 7, none⟩ = some (x.v7) ∧ W'.cell? ⟨w.heap.size, 8, none⟩ = some (x.v8) ∧ W'.cell? ⟨w.heap.size, 9, none⟩ = some (.slice x.EA m.elems x.ec) ∧ W'.cell? ⟨w.heap.size, 10, none⟩ = some (.slice x.DA m.datas x.dc) ∧ W'.cell? ⟨w.heap.size, 11, none⟩ = some (x.v11) ∧ W'.cell? ⟨w.heap.size + 1, 2, none⟩ = some (.int .i64 y.a) ∧ W'.cell? ⟨w.heap.size + 1, 3, none⟩ = some (.int .i64 y.b))) (by kernel_rfl) ?_ (fun hHeld0 => ?_)
      · exact ⟨g0, g1, g2, g3, g4, g5, g6, g7, g8, g9, g10, g11, m2, m3⟩
      refine tj (i := 0) rfl ?_; (try simp only [zS, zN, zT, zC, zZ])
      refine tj (i := 1) rfl ?_; (try simp only [zS, zN, zT, zC, zZ])
      refine tj (i := 2) (v := .bool false) rfl ?_ (hy := by intro w hSw; (try dsimp only at hSw); go_simp; (try first | rfl | (simp [x0]) | omega)); (try simp only [zS, zN, zT, zC, zZ])
      refine tj (i := 3) rfl ?_; (try simp only [zS, zN, zT, zC, zZ])
      refine tjN (i := 4) rfl ?_; (try simp only [zS, zN, zT, zC, zZ])
      refine tjN (i := 5) rfl ?_; (try simp only [zS, zN, zT, zC, zZ])
      refine tjN (i := 6) rfl ?_; (try simp only [zS, zN, zT, zC, zZ])
      refine tjN (i := 7) rfl ?_; (try simp only [zS, zN, zT, zC, zZ])
      refine tjN (i := 8) rfl ?_; (try simp only [zS, zN, zT, zC, zZ])
      refine tj (i := 9) rfl ?_; (try simp only [zS, zN, zT, zC, zZ])
      refine tj (i := 10) rfl ?_; (try simp only [zS, zN, zT, zC, zZ])
      refine tjN (i := 11) rfl ?_; (try simp only [zS, zN, zT, zC, zZ])
      refine tjN (i := 12) rfl ?_; (try simp only [zS, zN, zT, zC, zZ])
      refine tjN (i := 13) rfl ?_; (try simp only [zS, zN, zT, zC, zZ])
      refine tj (i := 14) rfl ?_; (try simp only [zS, zN, zT, zC, zZ])
      refine tj (i := 15) rfl ?_; (try simp only [zS, zN, zT, zC, zZ])
      refine wpAnyH_ready (rs := [16]) (by kernel_rfl) (by simp) ?_
      refine AllReadyH.cons rfl (fun K hK => ?_) AllReadyH.nil
      (rw [if_pos (by rfl)]; refine wp_store_row 137 (.tmp 4) (.tmp 68) rfl (w.heap.size + 2) #[.int .i64 0, .int .i64 0, .bool false] rfl rfl 137 #[.int .i64 0, .int .i64 0, .bool false] VRs info_need rfl (by simp [Value.oneCell']) ?_; have gR := setRow_grown (World.drew W) (w.heap.size + 2) #[.int .i64 0, .int .i64 0, .bool false])
      (try dsimp only)
      refine hK.out _ _ ?_ (fun hHeld1 => ?_)
      · (try dsimp only); (repeat' refine And.intro ?_ ?_) <;> exact gR.cell (by assumption) (by intro e; injection e with e; dsimp only at e; omega)
      clear hK K hHeld0
      (try simp only [zS, zN, zT, zC, zZ])
      refine wpAnyH_done (by kernel_rfl) ?_ _
      (try dsimp only)
      repeat (first | go_values | go_skip | go_guarded | go_step | go_upon)
      refine bodyPost_ret (results_cell_row rfl _ _ (w.heap.size + 2) _ #[.int .i64 0, .int .i64 0, .bool false] (0, 0) _ rfl (setRow_heap (World.drew W) (w.heap.size + 2) #[.int .i64 0, .int .i64 0, .bool false] _ _ (0, 0) VRs) Tryz.underlying137 rfl (by kernel_rfl)) rfl ?_
      have BD := (I.out.bel.trans ((below_drewN W 1).mono I.out.bel.size))
      exact ⟨by rw [← hR]; first | rfl | simp [nd3, Mc.ndOf], below_grown BD (setRow_grown (World.drew W) (w.heap.size + 2) #[.int .i64 0, .int .i64 0, .bool false]) BD.size (by omega)⟩
    by_cases x1 : y.a < (nd : Int)
    case neg =>
      have hqd : qd = false := by rw [Bool.eq_false_iff]; intro h; exact x1 (hia.1 h).2
      subst hqd
      clear hia
      have VRs : (World.drew W).heap[w.heap.size + 2]? = some (.cells #[.int .i64 0, .int .i64 0, .bool false] 137 (0, 0)) := I.out.rs
      refine wp_region_held_drew (S := (fun W' => W'.cell? ⟨w.heap.size, 0, none⟩ = some (.slice x.TA m.types.length x.tc) ∧ W'.cell? ⟨w.heap.size, 1, none⟩ = some (.slice x.IA m.imps.length x.ic) ∧ W'.cell? ⟨w.heap.size, 2, none⟩ = some (.slice x.FA m.funcs.length x.fc) ∧ W'.cell? ⟨w.heap.size, 3, none⟩ = some (.slice x.BA m.tables.length x.bc) ∧ W'.cell? ⟨w.heap.size, 4, none⟩ = some (.slice x.MA m.mems x.mc) ∧ W'.cell? ⟨w.heap.size, 5, none⟩ = some (.slice x.GA m.globals.length x.gc) ∧ W'.cell? ⟨w.heap.size, 6, none⟩ = some (x.v6) ∧ W'.cell? ⟨w.heap.size, 7, none⟩ = some (x.v7) ∧ W'.cell? ⟨w.heap.size, 8, none⟩ = some (x.v8) ∧ W'.cell? ⟨w.heap.size, 9, none⟩ = some (.slice x.EA m.elems x.ec) ∧ W'.cell? ⟨w.heap.size, 10, none⟩ = some (.slice x.DA m.datas x.dc) ∧ W'.cell? ⟨w.heap.size, 11, none⟩ = some (x.v11) ∧ W'.cell? ⟨w.heap.size + 1, 2, none⟩ = some (.int .i64 y.a) ∧ W'.cell? ⟨w.heap.size + 1, 3, none⟩ = some (.int .i64 y.b))) (by kernel_rfl) ?_ (fun hHeld0 => ?_)
      · exact ⟨g0, g1, g2, g3, g4, g5, g6, g7, g8, g9, g10, g11, m2, m3⟩
      refine tj (i := 0) rfl ?_; (try simp only [zS, zN, zT, zC, zZ])
      refine tj (i := 1) rfl ?_; (try simp only [zS, zN, zT, zC, zZ])
      refine tj (i := 2) (v := .bool true) rfl ?_ (hy := by intro w hSw; (try dsimp only at hSw); go_simp; (try first | rfl | (simp [x0]) | omega)); (try simp only [zS, zN, zT, zC, zZ])
      refine tj (i := 3) rfl ?_; (try simp only [zS, zN, zT, zC, zZ])
      refine tj (i := 4) rfl ?_; (try simp only [zS, zN, zT, zC, zZ])
      refine tj (i := 5) rfl ?_; (try simp only [zS, zN, zT, zC, zZ])
      refine tj (i := 6) rfl ?_; (try simp only [zS, zN, zT, zC, zZ])
      refine wpAnyH_ready (rs := [7]) (by kernel_rfl) (by simp) ?_
      refine AllReadyH.cons rfl (fun K hK => ?_) AllReadyH.nil
      go_simp
      (refine (HDa.out _ (I.out.ml.on (below_drewN W 1))).mono ?_; rintro e w5 ⟨rfl, hb⟩; have J5 := Lib.hid (I.out.below ((below_drewN W 1).trans (hb.mono (Nat.le_refl _)))); clear hb g0 g1 g2 g3 g4 g5 g6 g7 g8 g9 g10 g11 m0 m1 m2 m3 m4 m5 m6 m7 m8 r0 r1 r2 z0 z1 z2 hlt; obtain ⟨⟨g0, g1, g2, g3, g4, g5⟩, g6, g7, g8, g9, g10, g11⟩ := mdA_cells J5.out.md; obtain ⟨m0, m1, m2, m3, m4, m5, m6, m7, m8⟩ := miV_cells J5.out.mi; obtain ⟨r0, r1, r2, z0, z1, z2⟩ := cells3f J5.out.rs; have hlt := J5.out.rs.lt; have VR0 : w5.heap[w.heap.size + 2]? = some (.cells #[.int .i64 0, .int .i64 0, .bool false] 137 (0, 0)) := J5.out.rs)
      (try dsimp only)
      refine hK.out _ _ ?_ (fun hHeld1 => ?_)
      · exact ⟨g0, g1, g2, g3, g4, g5, g6, g7, g8, g9, g10, g11, m2, m3⟩
      clear hK K hHeld0
      (try simp only [zS, zN, zT, zC, zZ])
      refine tj (i := 8) (v := .bool false) rfl ?_ (hy := by intro w hSw; (try dsimp only at hSw); go_simp; (try first | rfl | (simp [x1]) | omega)); (try simp only [zS, zN, zT, zC, zZ])
      refine tj (i := 9) rfl ?_; (try simp only [zS, zN, zT, zC, zZ])
      refine tj (i := 10) rfl ?_; (try simp only [zS, zN, zT, zC, zZ])
      refine tjN (i := 11) rfl ?_; (try simp only [zS, zN, zT, zC, zZ])
      refine tjN (i := 12) rfl ?_; (try simp only [zS, zN, zT, zC, zZ])
      refine tjN (i := 13) rfl ?_; (try simp only [zS, zN, zT, zC, zZ])
      refine tj (i := 14) rfl ?_; (try simp only [zS, zN, zT, zC, zZ])
      refine tj (i := 15) rfl ?_; (try simp only [zS, zN, zT, zC, zZ])
      refine wpAnyH_ready (rs := [16]) (by kernel_rfl) (by simp) ?_
      refine AllReadyH.cons rfl (fun K hK => ?_) AllReadyH.nil
      (rw [if_pos (by rfl)]; refine wp_store_row 137 (.tmp 4) (.tmp 68) rfl (w.heap.size + 2) #[.int .i64 0, .int .i64 0, .bool false] rfl rfl 137 #[.int .i64 0, .int .i64 0, .bool false] VR0 info_need rfl (by simp [Value.oneCell']) ?_; have gR := setRow_grown w5 (w.heap.size + 2) #[.int .i64 0, .int .i64 0, .bool false])
      (try dsimp only)
      refine hK.out _ _ ?_ (fun hHeld2 => ?_)
      · (try dsimp only); (repeat' refine And.intro ?_ ?_) <;> exact gR.cell (by assumption) (by intro e; injection e with e; dsimp only at e; omega)
      clear hK K hHeld1
      (try simp only [zS, zN, zT, zC, zZ])
      refine wpAnyH_done (by kernel_rfl) ?_ _
      (try dsimp only)
      repeat (first | go_values | go_skip | go_guarded | go_step | go_upon)
      refine bodyPost_ret (results_cell_row rfl _ _ (w.heap.size + 2) _ #[.int .i64 0, .int .i64 0, .bool false] (0, 0) _ rfl (setRow_heap w5 (w.heap.size + 2) #[.int .i64 0, .int .i64 0, .bool false] _ _ (0, 0) VR0) Tryz.underlying137 rfl (by kernel_rfl)) rfl ?_
      have BD := J5.out.bel
      exact ⟨by rw [← hR]; first | rfl | simp [nd3, Mc.ndOf], below_grown BD (setRow_grown w5 (w.heap.size + 2) #[.int .i64 0, .int .i64 0, .bool false]) BD.size (by omega)⟩
    have hqd : qd = true := hia.2 ⟨x0, x1⟩
    subst hqd
    clear hia
    have VRs : (World.drew W).heap[w.heap.size + 2]? = some (.cells #[.int .i64 0, .int .i64 0, .bool false] 137 (0, 0)) := I.out.rs
    refine wp_region_held_drew (S := (fun W' => W'.cell? ⟨w.heap.size, 0, none⟩ = some (.slice x.TA m.types.length x.tc) ∧ W'.cell? ⟨w.heap.size, 1, none⟩ = some (.slice x.IA m.imps.length x.ic) ∧ W'.cell? ⟨w.heap.size, 2, none⟩ = some (.slice x.FA m.funcs.length x.fc) ∧ W'.cell? ⟨w.heap.size, 3, none⟩ = some (.slice x.BA m.tables.length x.bc) ∧ W'.cell? ⟨w.heap.size, 4, none⟩ = some (.slice x.MA m.mems x.mc) ∧ W'.cell? ⟨w.heap.size, 5, none⟩ = some (.slice x.GA m.globals.length x.gc) ∧ W'.cell? ⟨w.heap.size, 6, none⟩ = some (x.v6) ∧ W'.cell? ⟨w.heap.size, 7, none⟩ = some (x.v7) ∧ W'.cell? ⟨w.heap.size, 8, none⟩ = some (x.v8) ∧ W'.cell? ⟨w.heap.size, 9, none⟩ = some (.slice x.EA m.elems x.ec) ∧ W'.cell? ⟨w.heap.size, 10, none⟩ = some (.slice x.DA m.datas x.dc) ∧ W'.cell? ⟨w.heap.size, 11, none⟩ = some (x.v11) ∧ W'.cell? ⟨w.heap.size + 1, 2, none⟩ = some (.int .i64 y.a) ∧ W'.cell? ⟨w.heap.size + 1, 3, none⟩ = some (.int .i64 y.b))) (by kernel_rfl) ?_ (fun hHeld0 => ?_)
    · exact ⟨g0, g1, g2, g3, g4, g5, g6, g7, g8, g9, g10, g11, m2, m3⟩
    refine tj (i := 0) rfl ?_; (try simp only [zS, zN, zT, zC, zZ])
    refine tj (i := 1) rfl ?_; (try simp only [zS, zN, zT, zC, zZ])
    refine tj (i := 2) (v := .bool true) rfl ?_ (hy := by intro w hSw; (try dsimp only at hSw); go_simp; (try first | rfl | (simp [x0]) | omega)); (try simp only [zS, zN, zT, zC, zZ])
    refine tj (i := 3) rfl ?_; (try simp only [zS, zN, zT, zC, zZ])
    refine tj (i := 4) rfl ?_; (try simp only [zS, zN, zT, zC, zZ])
    refine tj (i := 5) rfl ?_; (try simp only [zS, zN, zT, zC, zZ])
    refine tj (i := 6) rfl ?_; (try simp only [zS, zN, zT, zC, zZ])
    refine wpAnyH_ready (rs := [7]) (by kernel_rfl) (by simp) ?_
    refine AllReadyH.cons rfl (fun K hK => ?_) AllReadyH.nil
    go_simp
    (refine (HDa.out _ (I.out.ml.on (below_drewN W 1))).mono ?_; rintro e w5 ⟨rfl, hb⟩; have J5 := Lib.hid (I.out.below ((below_drewN W 1).trans (hb.mono (Nat.le_refl _)))); clear hb g0 g1 g2 g3 g4 g5 g6 g7 g8 g9 g10 g11 m0 m1 m2 m3 m4 m5 m6 m7 m8 r0 r1 r2 z0 z1 z2 hlt; obtain ⟨⟨g0, g1, g2, g3, g4, g5⟩, g6, g7, g8, g9, g10, g11⟩ := mdA_cells J5.out.md; obtain ⟨m0, m1, m2, m3, m4, m5, m6, m7, m8⟩ := miV_cells J5.out.mi; obtain ⟨r0, r1, r2, z0, z1, z2⟩ := cells3f J5.out.rs; have hlt := J5.out.rs.lt; have VR0 : w5.heap[w.heap.size + 2]? = some (.cells #[.int .i64 0, .int .i64 0, .bool false] 137 (0, 0)) := J5.out.rs)
    (try dsimp only)
    refine hK.out _ _ ?_ (fun hHeld1 => ?_)
    · exact ⟨g0, g1, g2, g3, g4, g5, g6, g7, g8, g9, g10, g11, m2, m3⟩
    clear hK K hHeld0
    (try simp only [zS, zN, zT, zC, zZ])
    refine tj (i := 8) (v := .bool true) rfl ?_ (hy := by intro w hSw; (try dsimp only at hSw); go_simp; (try first | rfl | (simp [x1]) | omega)); (try simp only [zS, zN, zT, zC, zZ])
    refine tj (i := 9) rfl ?_; (try simp only [zS, zN, zT, zC, zZ])
    refine tj (i := 10) rfl ?_; (try simp only [zS, zN, zT, zC, zZ])
    refine tj (i := 11) rfl ?_; (try simp only [zS, zN, zT, zC, zZ])
    refine tj (i := 12) rfl ?_; (try simp only [zS, zN, zT, zC, zZ])
    refine tj (i := 13) rfl ?_; (try simp only [zS, zN, zT, zC, zZ])
    refine tj (i := 14) rfl ?_; (try simp only [zS, zN, zT, zC, zZ])
    refine tj (i := 15) rfl ?_; (try simp only [zS, zN, zT, zC, zZ])
    refine wpAnyH_ready (rs := [16]) (by kernel_rfl) (by simp) ?_
    refine AllReadyH.cons rfl (fun K hK => ?_) AllReadyH.nil
    (rw [if_pos (by rfl)]; refine wp_store_row 137 (.tmp 4) (.tmp 68) rfl (w.heap.size + 2) #[.int .i64 0, .int .i64 0, .bool (y.b == 0)] rfl rfl 137 #[.int .i64 0, .int .i64 0, .bool false] VR0 info_need rfl (by simp [Value.oneCell']) ?_; have gR := setRow_grown w5 (w.heap.size + 2) #[.int .i64 0, .int .i64 0, .bool (y.b == 0)])
    (try dsimp only)
    refine hK.out _ _ ?_ (fun hHeld2 => ?_)
    · (try dsimp only); (repeat' refine And.intro ?_ ?_) <;> exact gR.cell (by assumption) (by intro e; injection e with e; dsimp only at e; omega)
    clear hK K hHeld1
    (try simp only [zS, zN, zT, zC, zZ])
    refine wpAnyH_done (by kernel_rfl) ?_ _
    (try dsimp only)
    repeat (first | go_values | go_skip | go_guarded | go_step | go_upon)
    refine bodyPost_ret (results_cell_row rfl _ _ (w.heap.size + 2) _ #[.int .i64 0, .int .i64 0, .bool (y.b == 0)] (0, 0) _ rfl (setRow_heap w5 (w.heap.size + 2) #[.int .i64 0, .int .i64 0, .bool false] _ _ (0, 0) VR0) Tryz.underlying137 rfl (by kernel_rfl)) rfl ?_
    have BD := J5.out.bel
    exact ⟨by rw [← hR]; first | rfl | simp [nd3, Mc.ndOf], below_grown BD (setRow_grown w5 (w.heap.size + 2) #[.int .i64 0, .int .i64 0, .bool (y.b == 0)]) BD.size (by omega)⟩
  rw [if_neg o4] at hR
  have b4 : (y.op == 64521) = false := by rw [beq_eq_false_iff_ne]; exact o4
  clear o1 o2 o3 o4 hia HMa HMb HDa
  go_wp2_with fail
  refine bodyPost_ret (results_cell_row rfl _ _ (w.heap.size + 2) _ _ (0, 0) _ rfl I.out.fr Tryz.underlying137 rfl (by kernel_rfl)) rfl ?_
  exact ⟨by rw [← hR]; first | rfl | simp [nd3, Mc.ndOf, Mc.wt0, Mc.nd0], I.out.fb⟩
set_option maxHeartbeats 16000000 in
set_option maxRecDepth 100000 in
theorem rtablew_any (m : Md) (hm : m.Few) (x : MX) (ho : x.One) (S : Nat → Prop) (y : Mi) (D : Option Addr) (c1 : Nat) (E : Option Addr) (c2 : Nat) (T : Option Addr) (c3 : Nat) (w : World) (hl : MdL S w m x) :
    Calls Tryz.prog 116 #[.agg (mdA m x), .agg (miV y D c1 E c2 T c3)] w fun e w' => e = .returned (.agg (nd3 (Mc.ndOf (Mc.tabW (Mc.thOf m) y)))) ∧ Below w.heap.size w w' := by
  obtain ⟨R, hR⟩ : ∃ R, Mc.ndOf (Mc.tabW (Mc.thOf m) y) = R := ⟨_, rfl⟩
  rw [hR]
  unfold Mc.tabW Mc.oneT at hR
  have HTa := Lib.hid (fun W (h : MdL S W m x) => rtab_any m hm x ho S y.a W h)
  have HTb := Lib.hid (fun W (h : MdL S W m x) => rtab_any m hm x ho S y.b W h)
  have HEl := Lib.hid (fun W (h : MdL S W m x) => relem_any m hm.im x ho S y.a W h)
  have ee : (Mc.thOf m).elems = m.elems := rfl
  rw [ee] at hR
  obtain ⟨qa, eqa⟩ : ∃ q, Mc.inL y.a (Mc.thOf m).tables.length = q := ⟨_, rfl⟩
  obtain ⟨qb, eqb⟩ : ∃ q, Mc.inL y.b (Mc.thOf m).tables.length = q := ⟨_, rfl⟩
  obtain ⟨qe, eqe⟩ : ∃ q, Mc.inL y.a m.elems = q := ⟨_, rfl⟩
  rw [eqa, eqb, eqe] at hR
  simp only [eqa] at HTa
  simp only [eqb] at HTb
  simp only [eqe] at HEl
  unfold mdA at HTa HTb HEl
  have I0 := Lib.hid (Q3.new (mdA m x) (miV y D c1 E c2 T c3) hl)
  clear hl ho hm eqa eqb eqe ee
  go_enter Tryz.func116, Tryz.ntmps116
  go_upto_region 1 with fail
  refine at_code (F := fun W => Hid (Q3 S w W m x (mdA m x) (miV y D c1 E c2 T c3))) I0 ?_
  clear I0
  intro W I
  obtain ⟨⟨g0, g1, g2, g3, g4, g5⟩, g6, g7, g8, g9, g10, g11⟩ := mdA_cells I.out.md
  obtain ⟨m0, m1, m2, m3, m4, m5, m6, m7, m8⟩ := miV_cells I.out.mi
  obtain ⟨r0, r1, r2, z0, z1, z2⟩ := cells3f I.out.rs
  have hlt := I.out.rs.lt
  rcases qa with _ | _
  all_goals
    go_upto_region 3 with (first | (go_at_call 154; with_reducible refine (HTa.out _ I.out.ml).mono ?_; rintro e w5 ⟨rfl, hb⟩; have J := Lib.hid (I.out.below hb); clear hb I g0 g1 g2 g3 g4 g5 g6 g7 g8 g9 g10 g11 m0 m1 m2 m3 m4 m5 m6 m7 m8 r0 r1 r2 z0 z1 z2 hlt; obtain ⟨⟨g0, g1, g2, g3, g4, g5⟩, g6, g7, g8, g9, g10, g11⟩ := mdA_cells J.out.md; obtain ⟨m0, m1, m2, m3, m4, m5, m6, m7, m8⟩ := miV_cells J.out.mi; obtain ⟨r0, r1, r2, z0, z1, z2⟩ := cells3f J.out.rs; have hlt := J.out.rs.lt) | (go_at_call 155; refine (HEl.out _ J.out.ml).mono ?_; rintro e w6 ⟨⟨ez, rfl⟩, hb⟩; have J2 := Lib.hid (J.out.below hb); clear hb J g0 g1 g2 g3 g4 g5 g6 g7 g8 g9 g10 g11 m0 m1 m2 m3 m4 m5 m6 m7 m8 r0 r1 r2 z0 z1 z2 hlt; obtain ⟨⟨g0, g1, g2, g3, g4, g5⟩, g6, g7, g8, g9, g10, g11⟩ := mdA_cells J2.out.md; obtain ⟨m0, m1, m2, m3, m4, m5, m6, m7, m8⟩ := miV_cells J2.out.mi; obtain ⟨r0, r1, r2, z0, z1, z2⟩ := cells3f J2.out.rs; have hlt := J2.out.rs.lt))
    refine at_code (F := fun W => Hid (Q3 S w W m x (mdA m x) (miV y D c1 E c2 T c3))) J2 ?_
    clear J2 g0 g1 g2 g3 g4 g5 g6 g7 g8 g9 g10 g11 m0 m1 m2 m3 m4 m5 m6 m7 m8 r0 r1 r2 z0 z1 z2 hlt
    intro W J2
    obtain ⟨⟨g0, g1, g2, g3, g4, g5⟩, g6, g7, g8, g9, g10, g11⟩ := mdA_cells J2.out.md
    obtain ⟨m0, m1, m2, m3, m4, m5, m6, m7, m8⟩ := miV_cells J2.out.mi
    obtain ⟨r0, r1, r2, z0, z1, z2⟩ := cells3f J2.out.rs
    have hlt := J2.out.rs.lt
    by_cases o37 : y.op = 37
    · rw [if_pos o37] at hR
      rw [o37] at m1
      go_wp2_with fail
      refine bodyPost_ret (results_cell_row rfl _ _ (w.heap.size + 2) _ _ (0, 0) _ rfl J2.out.fr Tryz.underlying137 rfl (by kernel_rfl)) rfl ?_
      exact ⟨by rw [← hR]; first | rfl | simp [nd3, Mc.ndOf, Mc.wt0, Mc.nd0], J2.out.fb⟩
    rw [if_neg o37] at hR
    have b37 : (y.op == 37) = false := by rw [beq_eq_false_iff_ne]; exact o37
    by_cases o38 : y.op = 38
    · rw [if_pos o38] at hR
      rw [o38] at m1
      go_wp2_with fail
      refine bodyPost_ret (results_cell_row rfl _ _ (w.heap.size + 2) _ _ (0, 0) _ rfl J2.out.fr Tryz.underlying137 rfl (by kernel_rfl)) rfl ?_
      exact ⟨by rw [← hR]; first | rfl | simp [nd3, Mc.ndOf, Mc.wt0, Mc.nd0], J2.out.fb⟩
    rw [if_neg o38] at hR
    have b38 : (y.op == 38) = false := by rw [beq_eq_false_iff_ne]; exact o38
    by_cases o64528 : y.op = 64528
    · rw [if_pos o64528] at hR
      rw [o64528] at m1
      go_wp2_with fail
      refine bodyPost_ret (results_cell_row rfl _ _ (w.heap.size + 2) _ _ (0, 0) _ rfl J2.out.fr Tryz.underlying137 rfl (by kernel_rfl)) rfl ?_
      exact ⟨by rw [← hR]; first | rfl | simp [nd3, Mc.ndOf, Mc.wt0, Mc.nd0], J2.out.fb⟩
    rw [if_neg o64528] at hR
    have b64528 : (y.op == 64528) = false := by rw [beq_eq_false_iff_ne]; exact o64528
    by_cases o64527 : y.op = 64527
    · rw [if_pos o64527] at hR
      rw [o64527] at m1
      go_wp2_with fail
      refine bodyPost_ret (results_cell_row rfl _ _ (w.heap.size + 2) _ _ (0, 0) _ rfl J2.out.fr Tryz.underlying137 rfl (by kernel_rfl)) rfl ?_
      exact ⟨by rw [← hR]; first | rfl | simp [nd3, Mc.ndOf, Mc.wt0, Mc.nd0], J2.out.fb⟩
    rw [if_neg o64527] at hR
    have b64527 : (y.op == 64527) = false := by rw [beq_eq_false_iff_ne]; exact o64527
    by_cases o64529 : y.op = 64529
    · rw [if_pos o64529] at hR
      rw [o64529] at m1
      go_wp2_with fail
      refine bodyPost_ret (results_cell_row rfl _ _ (w.heap.size + 2) _ _ (0, 0) _ rfl J2.out.fr Tryz.underlying137 rfl (by kernel_rfl)) rfl ?_
      exact ⟨by rw [← hR]; first | rfl | simp [nd3, Mc.ndOf, Mc.wt0, Mc.nd0], J2.out.fb⟩
    rw [if_neg o64529] at hR
    have b64529 : (y.op == 64529) = false := by rw [beq_eq_false_iff_ne]; exact o64529
    by_cases o64526 : y.op = 64526
    · rw [if_pos o64526] at hR
      rw [o64526] at m1
      go_wp2_with (first | (go_at_call 154; with_reducible refine (HTa.out _ J2.out.ml).mono ?_; rintro e w7 ⟨rfl, hb⟩; have J3 := Lib.hid (J2.out.below hb); clear hb J2 g0 g1 g2 g3 g4 g5 g6 g7 g8 g9 g10 g11 m0 m1 m2 m3 m4 m5 m6 m7 m8 r0 r1 r2 z0 z1 z2 hlt; obtain ⟨⟨g0, g1, g2, g3, g4, g5⟩, g6, g7, g8, g9, g10, g11⟩ := mdA_cells J3.out.md; obtain ⟨m0, m1, m2, m3, m4, m5, m6, m7, m8⟩ := miV_cells J3.out.mi; obtain ⟨r0, r1, r2, z0, z1, z2⟩ := cells3f J3.out.rs; have hlt := J3.out.rs.lt) | (go_at_call 154; with_reducible refine (HTb.out _ J3.out.ml).mono ?_; rintro e w8 ⟨rfl, hb⟩; have J4 := Lib.hid (J3.out.below hb); clear hb J3 g0 g1 g2 g3 g4 g5 g6 g7 g8 g9 g10 g11 m0 m1 m2 m3 m4 m5 m6 m7 m8 r0 r1 r2 z0 z1 z2 hlt; obtain ⟨⟨g0, g1, g2, g3, g4, g5⟩, g6, g7, g8, g9, g10, g11⟩ := mdA_cells J4.out.md; obtain ⟨m0, m1, m2, m3, m4, m5, m6, m7, m8⟩ := miV_cells J4.out.mi; obtain ⟨r0, r1, r2, z0, z1, z2⟩ := cells3f J4.out.rs; have hlt := J4.out.rs.lt))
      first
        | (refine bodyPost_ret (results_cell_row rfl _ _ (w.heap.size + 2) _ _ (0, 0) _ rfl J4.out.fr Tryz.underlying137 rfl (by kernel_rfl)) rfl ?_; exact ⟨by rw [← hR]; first | rfl | simp [nd3, Mc.ndOf, Mc.wt0, Mc.nd0], J4.out.fb⟩)
        | (refine bodyPost_ret (results_cell_row rfl _ _ (w.heap.size + 2) _ _ (0, 0) _ rfl J3.out.fr Tryz.underlying137 rfl (by kernel_rfl)) rfl ?_; exact ⟨by rw [← hR]; first | rfl | simp [nd3, Mc.ndOf, Mc.wt0, Mc.nd0], J3.out.fb⟩)
    rw [if_neg o64526] at hR
    have b64526 : (y.op == 64526) = false := by rw [beq_eq_false_iff_ne]; exact o64526
    by_cases o64524 : y.op = 64524
    · rw [if_pos o64524] at hR
      rw [o64524] at m1
      rcases qe with _ | _
      · go_wp2_with fail
        refine bodyPost_ret (results_cell_row rfl _ _ (w.heap.size + 2) _ _ (0, 0) _ rfl J2.out.fr Tryz.underlying137 rfl (by kernel_rfl)) rfl ?_
        exact ⟨by rw [← hR]; first | rfl | simp [nd3, Mc.ndOf, Mc.wt0, Mc.nd0], J2.out.fb⟩
      · go_wp2_with (go_at_call 154; with_reducible refine (HTb.out _ J2.out.ml).mono ?_; rintro e w7 ⟨rfl, hb⟩; have J3 := Lib.hid (J2.out.below hb); clear hb J2 g0 g1 g2 g3 g4 g5 g6 g7 g8 g9 g10 g11 m0 m1 m2 m3 m4 m5 m6 m7 m8 r0 r1 r2 z0 z1 z2 hlt; obtain ⟨⟨g0, g1, g2, g3, g4, g5⟩, g6, g7, g8, g9, g10, g11⟩ := mdA_cells J3.out.md; obtain ⟨m0, m1, m2, m3, m4, m5, m6, m7, m8⟩ := miV_cells J3.out.mi; obtain ⟨r0, r1, r2, z0, z1, z2⟩ := cells3f J3.out.rs; have hlt := J3.out.rs.lt)
        refine bodyPost_ret (results_cell_row rfl _ _ (w.heap.size + 2) _ _ (0, 0) _ rfl J3.out.fr Tryz.underlying137 rfl (by kernel_rfl)) rfl ?_
        exact ⟨by rw [← hR]; first | rfl | simp [nd3, Mc.ndOf, Mc.wt0, Mc.nd0], J3.out.fb⟩
    rw [if_neg o64524] at hR
    have b64524 : (y.op == 64524) = false := by rw [beq_eq_false_iff_ne]; exact o64524
    by_cases o64525 : y.op = 64525
    · rw [if_pos o64525] at hR
      rw [o64525] at m1
      rcases qe with _ | _
      · go_wp2_with fail
        refine bodyPost_ret (results_cell_row rfl _ _ (w.heap.size + 2) _ _ (0, 0) _ rfl J2.out.fr Tryz.underlying137 rfl (by kernel_rfl)) rfl ?_
        exact ⟨by rw [← hR]; first | rfl | simp [nd3, Mc.ndOf, Mc.wt0, Mc.nd0], J2.out.fb⟩
      · go_wp2_with fail
        refine bodyPost_ret (results_cell_row rfl _ _ (w.heap.size + 2) _ _ (0, 0) _ rfl J2.out.fr Tryz.underlying137 rfl (by kernel_rfl)) rfl ?_
        exact ⟨by rw [← hR]; first | rfl | simp [nd3, Mc.ndOf, Mc.wt0, Mc.nd0], J2.out.fb⟩
    rw [if_neg o64525] at hR
    have b64525 : (y.op == 64525) = false := by rw [beq_eq_false_iff_ne]; exact o64525
    go_wp2_with fail
    refine bodyPost_ret (results_cell_row rfl _ _ (w.heap.size + 2) _ _ (0, 0) _ rfl J2.out.fr Tryz.underlying137 rfl (by kernel_rfl)) rfl ?_
    exact ⟨by rw [← hR]; first | rfl | simp [nd3, Mc.ndOf, Mc.wt0, Mc.nd0], J2.out.fb⟩
end Go.Proofs.YtadnfekogmjieaaGreatDoor
