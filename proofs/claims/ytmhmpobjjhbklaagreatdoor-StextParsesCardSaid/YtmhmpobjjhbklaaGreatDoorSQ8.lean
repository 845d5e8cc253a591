/-
  Layer 40, the reference's readIns. (Printed by gen_sq8.py.)
-/
import Derived.Test.YtmhmpobjjhbklaaGreatDoorTk
import Derived.Test.YtmhmpobjjhbklaaGreatDoorQB
import Derived.Test.YtmhmpobjjhbklaaGreatDoorSO5
import Derived.Test.YtmhmpobjjhbklaaGreatDoorSR2
import Derived.Deep.Cut
import Derived.Deep.CutRange
import Derived.Deep.RegionHeld3
set_option linter.unusedVariables false
set_option linter.unusedSimpArgs false
namespace Go.Proofs.YtmhmpobjjhbklaaGreatDoor
open Go.RowKit
open St (InR SubL)
/-- The state of the reference's readIns: the result's cell, the instruction so far. -/
structure RSt (w W : World) (K1 Kx : Nat) (x : St.Ins) : Prop where
  bel : Below w.heap.size w W
  res : Var W K1 #[.int .i64 0, .int .i64 0, .int .i64 0, .int .i64 0, .int .u64 0, .slice none 0 0, .slice none 0 0] 48
  cur : ∃ A c B d, Var W Kx (insC x A c B d) 48 ∧ RdZ W (fun g => w.heap.size ≤ g ∧ g ≠ K1 ∧ g ≠ Kx) A x.args ∧ RdZ W (fun g => w.heap.size ≤ g ∧ g ≠ K1 ∧ g ≠ Kx) B x.outs
  lo : w.heap.size ≤ K1
  l1 : K1 ≠ Kx
  l2 : w.heap.size ≤ Kx
section
variable {w W W' : World} {K1 Kx : Nat} {x : St.Ins}
theorem RSt.ltx (S : RSt w W K1 Kx x) : Kx < W.heap.size := by obtain ⟨A, c, B, d, hv, -⟩ := S.cur; exact hv.lt
theorem RSt.below (S : RSt w W K1 Kx x) (hb : Below W.heap.size W W') : RSt w W' K1 Kx x := by
  obtain ⟨h1, h2, ⟨A, c, B, d, h4, h5, h6⟩, h7, h8, h9⟩ := S
  exact ⟨h1.trans (hb.mono h1.size), var_keep h2 hb, ⟨A, c, B, d, var_keep h4 hb, h5.on hb, h6.on hb⟩, h7, h8, h9⟩
theorem RSt.cells (S : RSt w W K1 Kx x) : ∀ i, i < 7 → W.frozen? ⟨Kx, i, none⟩ = false ∧ ∃ v, W.cell? ⟨Kx, i, none⟩ = some v := by
  obtain ⟨A, c, B, d, hv, -⟩ := S.cur
  intro i hi
  refine ⟨hv.froz i, ?_⟩
  rw [hv.cells]
  exact ⟨_, Array.getElem?_eq_getElem (by simpa [insC] using hi)⟩
theorem RSt.set (S : RSt w W K1 Kx x) {A c B d} (hv : Var W Kx (insC x A c B d) 48) (i : Nat) (u : Value) {y : St.Ins} {A' c' B' d'} (hy : (insC x A c B d).setIfInBounds i u = insC y A' c' B' d')
    (h5 : RdZ W (fun g => w.heap.size ≤ g ∧ g ≠ K1 ∧ g ≠ Kx) A' y.args) (h6 : RdZ W (fun g => w.heap.size ≤ g ∧ g ≠ K1 ∧ g ≠ Kx) B' y.outs) : RSt w (W.setCell ⟨Kx, i, none⟩ u) K1 Kx y := by
  have hg := grown_set W Kx i u
  have hs := hv.set i u
  rw [hy] at hs
  obtain ⟨h1, h2, -, h7, h8, h9⟩ := S
  exact ⟨h1.setCell (p := ⟨Kx, i, none⟩) h9 u, var_stay h2 hg h8, ⟨A', c', B', d', hs, h5.keep (keep_grown hg (fun h => h.2.2 rfl)) hg.size, h6.keep (keep_grown hg (fun h => h.2.2 rfl)) hg.size⟩, h7, h8, h9⟩
theorem RSt.setOp (S : RSt w W K1 Kx x) (z : Int) : RSt w (W.setCell ⟨Kx, 1, none⟩ (.int .i64 z)) K1 Kx ⟨x.kind, z, x.a, x.b, x.n, x.args, x.outs⟩ := by
  obtain ⟨A, c, B, d, hv, h5, h6⟩ := S.cur
  exact S.set (A' := A) (c' := c) (B' := B) (d' := d) hv 1 _ (by simp [insC]) h5 h6
theorem RSt.setA (S : RSt w W K1 Kx x) (z : Int) : RSt w (W.setCell ⟨Kx, 2, none⟩ (.int .i64 z)) K1 Kx ⟨x.kind, x.op, z, x.b, x.n, x.args, x.outs⟩ := by
  obtain ⟨A, c, B, d, hv, h5, h6⟩ := S.cur
  exact S.set (A' := A) (c' := c) (B' := B) (d' := d) hv 2 _ (by simp [insC]) h5 h6
theorem RSt.setB (S : RSt w W K1 Kx x) (z : Int) : RSt w (W.setCell ⟨Kx, 3, none⟩ (.int .i64 z)) K1 Kx ⟨x.kind, x.op, x.a, z, x.n, x.args, x.outs⟩ := by
  obtain ⟨A, c, B, d, hv, h5, h6⟩ := S.cur
  exact S.set (A' := A) (c' := c) (B' := B) (d' := d) hv 3 _ (by simp [insC]) h5 h6
theorem RSt.setN (S : RSt w W K1 Kx x) (z : Nat) : RSt w (W.setCell ⟨Kx, 4, none⟩ (.int .u64 (z : Int))) K1 Kx ⟨x.kind, x.op, x.a, x.b, z, x.args, x.outs⟩ := by
  obtain ⟨A, c, B, d, hv, h5, h6⟩ := S.cur
  exact S.set (A' := A) (c' := c) (B' := B) (d' := d) hv 4 _ (by simp [insC]) h5 h6
theorem RSt.setArgs (S : RSt w W K1 Kx x) {A c l} (h : RdZ W (fun g => w.heap.size ≤ g ∧ g ≠ K1 ∧ g ≠ Kx) A l) : RSt w (W.setCell ⟨Kx, 5, none⟩ (.slice A l.length c)) K1 Kx ⟨x.kind, x.op, x.a, x.b, x.n, l, x.outs⟩ := by
  obtain ⟨A0, c0, B, d, hv, h5, h6⟩ := S.cur
  exact S.set (A' := A) (c' := c) (B' := B) (d' := d) hv 5 _ (by simp [insC]) h h6
theorem RSt.setOuts (S : RSt w W K1 Kx x) {A c l} (h : RdZ W (fun g => w.heap.size ≤ g ∧ g ≠ K1 ∧ g ≠ Kx) A l) : RSt w (W.setCell ⟨Kx, 6, none⟩ (.slice A l.length c)) K1 Kx ⟨x.kind, x.op, x.a, x.b, x.n, x.args, l⟩ := by
  obtain ⟨A0, c0, B, d, hv, h5, h6⟩ := S.cur
  exact S.set (A' := A0) (c' := c0) (B' := A) (d' := c) hv 6 _ (by simp [insC]) h5 h
end
/-- A write into another block leaves a slice of words. -/
theorem Sl.stay {W W' : World} {v : Value} {l : List St.W} {K : Nat} {cs : Array Value} {t : TypeId} (h : Sl W v l) (hv : Var W K cs t) (hns : ∀ u ∈ cs.toList, ∀ y : List UInt8, (encS y)[0]? ≠ some u) (hg : W.grownBy W' (some K)) : Sl W' v l := by
  obtain ⟨A, c, e, hr, hc⟩ := h
  refine ⟨A, c, e, fun hl => ?_, hc⟩
  obtain ⟨g, o, e1, hb, h1⟩ := hr.away encS_len (by omega) hv hns hg hl
  exact ⟨g, o, e1, Nat.lt_of_lt_of_le hb hg.size, h1⟩
theorem RSt.sl {w W : World} {K1 Kx : Nat} {x : St.Ins} {v : Value} {l : List St.W} (S : RSt w W K1 Kx x) (h : Sl W v l) (i : Nat) (u : Value) : Sl (W.setCell ⟨Kx, i, none⟩ u) v l := by
  obtain ⟨A, c, B, d, hv, -⟩ := S.cur
  exact h.stay hv (insC_nos _ _ _ _ _) (grown_set _ _ _ _)

theorem rstA {w w1 w2 : World} (hb1 : Below w.heap.size w w1) (v0 : Var w1 w.heap.size #[.int .i64 0, .int .i64 0, .int .i64 0, .int .i64 0, .int .u64 0, .slice none 0 0, .slice none 0 0] 48) (hb : Below w1.heap.size w1 w2) (k : Int) :
    RSt w (w2.alloc (.cells #[.int .i64 k, .int .i64 0, .int .i64 0, .int .i64 0, .int .u64 0, .slice none 0 0, .slice none 0 0] 48)) w.heap.size w2.heap.size ⟨k, 0, 0, 0, 0, [], []⟩ ∧ Below w1.heap.size w1 (w2.alloc (.cells #[.int .i64 k, .int .i64 0, .int .i64 0, .int .i64 0, .int .u64 0, .slice none 0 0, .slice none 0 0] 48)) := by
  have h1 := v0.lt
  have h2 := hb.size
  have h3 := hb1.size
  refine ⟨⟨hb1.trans ((hb.alloc hb.size _).mono hb1.size), (var_keep v0 hb).alloc _, ⟨none, 0, none, 0, Var.new _ _ _, RdT.nil_, RdT.nil_⟩, Nat.le_refl _, by omega, by omega⟩, hb.alloc hb.size _⟩
theorem rstB {w w1 w2 : World} (hb1 : Below w.heap.size w w1) (v0 : Var w1 w.heap.size #[.int .i64 0, .int .i64 0, .int .i64 0, .int .i64 0, .int .u64 0, .slice none 0 0, .slice none 0 0] 48) (hb : Below w1.heap.size w1 w2) (vk : Var w2 w1.heap.size #[.int .i64 0, .int .i64 0, .int .i64 0, .int .i64 0, .int .u64 0, .slice none 0 0, .slice none 0 0] 48) (k : Int) :
    RSt w (((((((w2.setCell ⟨w1.heap.size, 0, none⟩ (.int .i64 k)).setCell ⟨w1.heap.size, 1, none⟩ (.int .i64 0)).setCell ⟨w1.heap.size, 2, none⟩ (.int .i64 0)).setCell ⟨w1.heap.size, 3, none⟩ (.int .i64 0)).setCell ⟨w1.heap.size, 4, none⟩ (.int .u64 0)).setCell ⟨w1.heap.size, 5, none⟩ (.slice none 0 0)).setCell ⟨w1.heap.size, 6, none⟩ (.slice none 0 0)) w.heap.size w1.heap.size ⟨k, 0, 0, 0, 0, [], []⟩ ∧
    Below w1.heap.size w1 (((((((w2.setCell ⟨w1.heap.size, 0, none⟩ (.int .i64 k)).setCell ⟨w1.heap.size, 1, none⟩ (.int .i64 0)).setCell ⟨w1.heap.size, 2, none⟩ (.int .i64 0)).setCell ⟨w1.heap.size, 3, none⟩ (.int .i64 0)).setCell ⟨w1.heap.size, 4, none⟩ (.int .u64 0)).setCell ⟨w1.heap.size, 5, none⟩ (.slice none 0 0)).setCell ⟨w1.heap.size, 6, none⟩ (.slice none 0 0)) := by
  have h1 := v0.lt
  have h2 := hb.size
  have h3 := hb1.size
  obtain ⟨p1, p2⟩ := put7 vk (.int .i64 k) (.int .i64 0) (.int .i64 0) (.int .i64 0) (.int .u64 0) (.slice none 0 0) (.slice none 0 0)
  have hb2 := below_grown hb p2 hb.size (Nat.le_refl _)
  exact ⟨⟨hb1.trans (hb2.mono hb1.size), var_stay (var_keep v0 hb) p2 (by omega), ⟨none, 0, none, 0, p1, RdT.nil_, RdT.nil_⟩, Nat.le_refl _, by omega, by omega⟩, hb2⟩
theorem rinFin {w W X : World} {Kx : Nat} {A B : Option Addr} {l m : List Int} (hB : Below w.heap.size w W) (hX : Below W.heap.size W X)
    (h5 : RdZ W (fun g => w.heap.size ≤ g ∧ g ≠ w.heap.size ∧ g ≠ Kx) A l) (h6 : RdZ W (fun g => w.heap.size ≤ g ∧ g ≠ w.heap.size ∧ g ≠ Kx) B m) (cs : Array Value) :
    Below w.heap.size w (X.setRow w.heap.size cs) ∧ RdZ (X.setRow w.heap.size cs) (fun g => w.heap.size ≤ g) A l ∧ RdZ (X.setRow w.heap.size cs) (fun g => w.heap.size ≤ g) B m :=
  ⟨below_grown (hB.trans (hX.mono hB.size)) (setRow_grown X _ cs) (Nat.le_trans hB.size hX.size) (Nat.le_refl _),
    ((h5.on hX).keep (keep_grown (setRow_grown X _ cs) (fun h => h.2.1 rfl)) (setRow_grown X _ cs).size).mono (fun g _ h => h.1),
    ((h6.on hX).keep (keep_grown (setRow_grown X _ cs) (fun h => h.2.1 rfl)) (setRow_grown X _ cs).size).mono (fun g _ h => h.1)⟩
theorem cells7' {W : World} {K : Nat} {t : TypeId} {v0 v1 v2 v3 v4 v5 v6 : Value} (h : Var W K #[v0, v1, v2, v3, v4, v5, v6] t) : (W.cell? ⟨K, 0, none⟩ = some v0 ∧ W.cell? ⟨K, 1, none⟩ = some v1 ∧ W.cell? ⟨K, 2, none⟩ = some v2 ∧ W.cell? ⟨K, 3, none⟩ = some v3 ∧ W.cell? ⟨K, 4, none⟩ = some v4 ∧ W.cell? ⟨K, 5, none⟩ = some v5 ∧ W.cell? ⟨K, 6, none⟩ = some v6) ∧ W.frozen? ⟨K, 0, none⟩ = false ∧ W.frozen? ⟨K, 1, none⟩ = false ∧ W.frozen? ⟨K, 2, none⟩ = false ∧ W.frozen? ⟨K, 3, none⟩ = false ∧ W.frozen? ⟨K, 4, none⟩ = false ∧ W.frozen? ⟨K, 5, none⟩ = false ∧ W.frozen? ⟨K, 6, none⟩ = false :=
  ⟨⟨h.cells 0, h.cells 1, h.cells 2, h.cells 3, h.cells 4, h.cells 5, h.cells 6⟩, h.froz 0, h.froz 1, h.froz 2, h.froz 3, h.froz 4, h.froz 5, h.froz 6⟩
set_option maxHeartbeats 16000000 in
set_option maxRecDepth 100000 in
theorem rreadIns_any (s : St.W) (hs : s.length ≤ 8000) (w : World) :
    Calls Tryz.prog 74 #[.string ⟨s.toArray⟩] w fun e w' => InsOut w.heap.size (St.rinsP s) e w' ∧ Below w.heap.size w w' := by
  have HW := Lib.hid (fun W => rwords_any s (by omega) W)
  have hwl := St.words_len s
  have hwc := St.words_count s
  obtain ⟨R, hR⟩ : ∃ x, St.rinsP s = x := ⟨_, rfl⟩
  rw [hR]
  unfold St.rinsP at hR
  obtain ⟨L, hL⟩ : ∃ x, St.words s = x := ⟨_, rfl⟩
  rw [hL] at HW hR hwl hwc
  clear hL
  have HB0 := Lib.hid ((Below.refl w.heap.size w).alloc (Nat.le_refl _) (.cells #[.int .i64 0, .int .i64 0, .int .i64 0, .int .i64 0, .int .u64 0, .slice none 0 0, .slice none 0 0] 48))
  have HV0 := Lib.hid (Var.new w #[.int .i64 0, .int .i64 0, .int .i64 0, .int .i64 0, .int .u64 0, .slice none 0 0, .slice none 0 0] 48)
  rcases L with _ | ⟨a, _ | ⟨b, _ | ⟨c, t⟩⟩⟩
  · have HR : Hid (R = (St.ins0z, false)) := Lib.hid (by rw [← hR])
    clear hR hwl hwc
    go_enter Tryz.func74, Tryz.ntmps74
    go_wp2_with (go_at_call 32; refine (HW.out _).mono ?_; rintro e w1 ⟨⟨v1, rfl, A1, c1, rfl, hr1, hc1⟩, hb⟩; have hb1 := HB0.out.trans (hb.mono (by simp)); have v0 := HV0.out.below hb (by simp); have hlt := v0.lt; obtain ⟨⟨z0, z1, z2, z3, z4, z5, z6⟩, y0, y1, y2, y3, y4, y5, y6⟩ := cells7' v0)
    have hp := put7 v0 (.int .i64 0) (.int .i64 0) (.int .i64 0) (.int .i64 0) (.int .u64 0) (.slice none 0 0) (.slice none 0 0)
    refine bodyPost_ret (results_cell_row_tmp rfl _ _ w.heap.size _ #[.int .i64 0, .int .i64 0, .int .i64 0, .int .i64 0, .int .u64 0, .slice none 0 0, .slice none 0 0] (0, 0) _ rfl hp.1 Tryz.underlying48 rfl (by kernel_rfl)) rfl ?_
    rw [HR.out]
    exact ⟨⟨none, 0, none, 0, rfl, RdT.nil_, RdT.nil_⟩, below_grown hb1 hp.2 hb1.size (Nat.le_refl _)⟩
  · have HR : Hid (R = (St.ins0z, false)) := Lib.hid (by rw [← hR])
    clear hR hwl hwc
    go_enter Tryz.func74, Tryz.ntmps74
    go_wp2_with (go_at_call 32; refine (HW.out _).mono ?_; rintro e w1 ⟨⟨v1, rfl, A1, c1, rfl, hr1, hc1⟩, hb⟩; have hb1 := HB0.out.trans (hb.mono (by simp)); have v0 := HV0.out.below hb (by simp); have hlt := v0.lt; obtain ⟨⟨z0, z1, z2, z3, z4, z5, z6⟩, y0, y1, y2, y3, y4, y5, y6⟩ := cells7' v0)
    have hp := put7 v0 (.int .i64 0) (.int .i64 0) (.int .i64 0) (.int .i64 0) (.int .u64 0) (.slice none 0 0) (.slice none 0 0)
    refine bodyPost_ret (results_cell_row_tmp rfl _ _ w.heap.size _ #[.int .i64 0, .int .i64 0, .int .i64 0, .int .i64 0, .int .u64 0, .slice none 0 0, .slice none 0 0] (0, 0) _ rfl hp.1 Tryz.underlying48 rfl (by kernel_rfl)) rfl ?_
    rw [HR.out]
    exact ⟨⟨none, 0, none, 0, rfl, RdT.nil_, RdT.nil_⟩, below_grown hb1 hp.2 hb1.size (Nat.le_refl _)⟩
  · have HR : Hid (R = (St.ins0z, false)) := Lib.hid (by rw [← hR])
    clear hR hwl hwc
    go_enter Tryz.func74, Tryz.ntmps74
    go_wp2_with (go_at_call 32; refine (HW.out _).mono ?_; rintro e w1 ⟨⟨v1, rfl, A1, c1, rfl, hr1, hc1⟩, hb⟩; have hb1 := HB0.out.trans (hb.mono (by simp)); have v0 := HV0.out.below hb (by simp); have hlt := v0.lt; obtain ⟨⟨z0, z1, z2, z3, z4, z5, z6⟩, y0, y1, y2, y3, y4, y5, y6⟩ := cells7' v0)
    have hp := put7 v0 (.int .i64 0) (.int .i64 0) (.int .i64 0) (.int .i64 0) (.int .u64 0) (.slice none 0 0) (.slice none 0 0)
    refine bodyPost_ret (results_cell_row_tmp rfl _ _ w.heap.size _ #[.int .i64 0, .int .i64 0, .int .i64 0, .int .i64 0, .int .u64 0, .slice none 0 0, .slice none 0 0] (0, 0) _ rfl hp.1 Tryz.underlying48 rfl (by kernel_rfl)) rfl ?_
    rw [HR.out]
    exact ⟨⟨none, 0, none, 0, rfl, RdT.nil_, RdT.nil_⟩, below_grown hb1 hp.2 hb1.size (Nat.le_refl _)⟩
  dsimp only at hR
  have x0 : ¬ ((t.length : Int) + 1 + 1 + 1 < 3) := by omega
  by_cases ha : a = []
  case neg =>
    rw [if_neg (fun h => ha h.1)] at hR
    have q1 : (a == ([] : List UInt8)) = false := beq_eq_false_iff_ne.2 ha
    have HR : Hid (R = (St.ins0z, false)) := Lib.hid (by rw [← hR])
    clear hR hwl hwc
    go_enter Tryz.func74, Tryz.ntmps74
    go_wp2_with (go_at_call 32; refine (HW.out _).mono ?_; rintro e w1 ⟨⟨v1, rfl, A1, c1, rfl, hr1, hc1⟩, hb⟩; have hb1 := HB0.out.trans (hb.mono (by simp)); have v0 := HV0.out.below hb (by simp); have hlt := v0.lt; obtain ⟨⟨z0, z1, z2, z3, z4, z5, z6⟩, y0, y1, y2, y3, y4, y5, y6⟩ := cells7' v0; obtain ⟨g, o, rfl, hg, hc⟩ := hr1 (by simp); have f0 := hc 0 (by simp) 0 _ rfl; have f1 := hc 1 (by simp) 0 _ rfl; simp only [Nat.zero_mul, Nat.add_zero, Nat.mul_one, List.getElem_cons_zero, List.getElem_cons_succ] at f0 f1)
    have hp := put7 v0 (.int .i64 0) (.int .i64 0) (.int .i64 0) (.int .i64 0) (.int .u64 0) (.slice none 0 0) (.slice none 0 0)
    refine bodyPost_ret (results_cell_row_tmp rfl _ _ w.heap.size _ #[.int .i64 0, .int .i64 0, .int .i64 0, .int .i64 0, .int .u64 0, .slice none 0 0, .slice none 0 0] (0, 0) _ rfl hp.1 Tryz.underlying48 rfl (by kernel_rfl)) rfl ?_
    rw [HR.out]
    exact ⟨⟨none, 0, none, 0, rfl, RdT.nil_, RdT.nil_⟩, below_grown hb1 hp.2 hb1.size (Nat.le_refl _)⟩
  subst ha
  by_cases hb0 : b = []
  case neg =>
    rw [if_neg (fun h => hb0 h.2)] at hR
    have q1 : (b == ([] : List UInt8)) = false := beq_eq_false_iff_ne.2 hb0
    have HR : Hid (R = (St.ins0z, false)) := Lib.hid (by rw [← hR])
    clear hR hwl hwc
    go_enter Tryz.func74, Tryz.ntmps74
    go_wp2_with (go_at_call 32; refine (HW.out _).mono ?_; rintro e w1 ⟨⟨v1, rfl, A1, c1, rfl, hr1, hc1⟩, hb⟩; have hb1 := HB0.out.trans (hb.mono (by simp)); have v0 := HV0.out.below hb (by simp); have hlt := v0.lt; obtain ⟨⟨z0, z1, z2, z3, z4, z5, z6⟩, y0, y1, y2, y3, y4, y5, y6⟩ := cells7' v0; obtain ⟨g, o, rfl, hg, hc⟩ := hr1 (by simp); have f0 := hc 0 (by simp) 0 _ rfl; have f1 := hc 1 (by simp) 0 _ rfl; simp only [Nat.zero_mul, Nat.add_zero, Nat.mul_one, List.getElem_cons_zero, List.getElem_cons_succ] at f0 f1)
    have hp := put7 v0 (.int .i64 0) (.int .i64 0) (.int .i64 0) (.int .i64 0) (.int .u64 0) (.slice none 0 0) (.slice none 0 0)
    refine bodyPost_ret (results_cell_row_tmp rfl _ _ w.heap.size _ #[.int .i64 0, .int .i64 0, .int .i64 0, .int .i64 0, .int .u64 0, .slice none 0 0, .slice none 0 0] (0, 0) _ rfl hp.1 Tryz.underlying48 rfl (by kernel_rfl)) rfl ?_
    rw [HR.out]
    exact ⟨⟨none, 0, none, 0, rfl, RdT.nil_, RdT.nil_⟩, below_grown hb1 hp.2 hb1.size (Nat.le_refl _)⟩
  subst hb0
  rw [if_pos ⟨rfl, rfl⟩] at hR
  have hkl : St.kindW.length = 20 := by decide +kernel
  have HPl := Lib.hid (fun A W (h : RdS W W.heap.size A 1 encS St.kindW) => rplace_any A 20 20 St.kindW hkl (by omega) c W h)
  have hkr : 0 ≤ St.idx St.kindW c → St.idx St.kindW c < 20 := fun h => by
    obtain ⟨i, hi, e, -⟩ := St.word_get (St.idx_word h).1
    omega
  obtain ⟨k, hk⟩ : ∃ x, St.idx St.kindW c = x := ⟨_, rfl⟩
  rw [hk] at hR HPl hkr
  have HKR := Lib.hid hkr
  clear hkr
  have HR := Lib.hid hR
  clear hR hk hkl
  go_enter Tryz.func74, Tryz.ntmps74
  go_upto_region 4 with (go_at_call 32; refine (HW.out _).mono ?_; rintro e w1 ⟨⟨v1, rfl, A1, c1, rfl, hr1, hc1⟩, hb⟩; have hb1 := HB0.out.trans (hb.mono (by simp)); have v0 := HV0.out.below hb (by simp); have hlt := v0.lt; obtain ⟨g, o, rfl, hg, hc⟩ := hr1 (by simp); have f0 := hc 0 (by simp) 0 _ rfl; have f1 := hc 1 (by simp) 0 _ rfl; have f2 := hc 2 (by simp) 0 _ rfl; simp only [Nat.zero_mul, Nat.add_zero, Nat.mul_one, List.getElem_cons_zero, List.getElem_cons_succ] at f0 f1 f2; have HR1 := Lib.hid hr1; have HB1 := Lib.hid hb1; have HV1 := Lib.hid v0; simp only [List.length_cons] at hc1; clear hr1 hc hb hb1 v0)
  go_cut [5] from 6 (fun s5 wx => ∃ Kx, s5 = .pointer (some ⟨Kx, 0, none⟩) ∧ RSt w wx w.heap.size Kx ⟨k, 0, 0, 0, 0, [], []⟩ ∧ Below w1.heap.size w1 wx)
  case first =>
    clear HR
    go_region_with (first
      | (go_at_call 42; refine (rkinds_any _).mono ?_; rintro e w2 ⟨⟨A2, rfl, hrd⟩, hb⟩; have hsz := hb.size; simp at hsz; have hg2 : g < w2.heap.size := (by omega); have f2' : w2.cell? ⟨g, o + 2, none⟩ = some (.string ⟨c.toArray⟩) := (by first | exact (hb.cell (p := ⟨g, o + 2, none⟩) hg).trans f2 | exact (hb.cell (p := ⟨g, o + 2, none⟩) (by simp; omega)).trans ((((Below.refl w1.heap.size w1).alloc (Nat.le_refl _) _).cell (p := ⟨g, o + 2, none⟩) hg).trans f2)); (try (have vk : Var w2 w1.heap.size #[.int .i64 0, .int .i64 0, .int .i64 0, .int .i64 0, .int .u64 0, .slice none 0 0, .slice none 0 0] 48 := var_keep (Var.new w1.drew #[.int .i64 0, .int .i64 0, .int .i64 0, .int .i64 0, .int .u64 0, .slice none 0 0, .slice none 0 0] 48) hb; obtain ⟨⟨k0, k1, k2, k3, k4, k5, k6⟩, r0, r1, r2, r3, r4, r5, r6⟩ := cells7' vk; have hlk := vk.lt)))
      | (go_at_call 102; (first | refine (HPl.out _ _ hrd).mono ?_ | refine (HPl.out _ _ (hrd.on ((Below.refl _ _).alloc (Nat.le_refl _) _))).mono ?_); rintro e w3 ⟨rfl, rfl⟩))
    all_goals go_wp2
    all_goals go_meet
    all_goals first
      | exact ⟨_, rfl, rstA HB1.out HV1.out ⟨hb.os, hb.tape, hb.output, hb.size, hb.block⟩ k⟩
      | exact ⟨_, rfl, rstB HB1.out HV1.out (((Below.refl w1.heap.size w1).alloc (Nat.le_refl _) (.cells #[.int .i64 0, .int .i64 0, .int .i64 0, .int .i64 0, .int .u64 0, .slice none 0 0, .slice none 0 0] 48)).trans (Below.mono ⟨hb.os, hb.tape, hb.output, hb.size, hb.block⟩ (by simp))) vk k⟩
  case rest =>
  obtain ⟨Kx, rfl, S, hbx⟩ := hcut
  have hsl := HR1.out.on hbx
  clear hbx f0 f1 f2 HV1 HB1 HPl HW HV0 HB0 HR1 hlt
  have htl : t.length ≤ 9000 := by simp at hwc; omega
  have hwt : ∀ u ∈ t, u.length ≤ 1000000 := fun u hu => by have := hwl u (by simp [hu]); omega
  clear hwl hwc
  have HD := Lib.hid (fun (A' : Option Addr) (c' : Nat) hc hA => Sl.drop (A := some ⟨g, o, none⟩) (l := [] :: [] :: c :: t) (k := 3) (c' := c') hsl (by simp) hc (A' := A') hA)
  simp only [List.length_cons, List.drop_succ_cons, List.drop_zero] at HD
  clear hsl
  go_step
  go_step
  go_cut [4] from 6 (fun s4 wx => RSt w wx w.heap.size Kx ⟨k, 0, 0, 0, 0, [], []⟩ ∧ Sl wx s4 t)
  case first =>
    clear HR
    go_wp2
    all_goals go_meet
    all_goals exact ⟨S, HD.out _ _ (by omega) (by first | exact .inl (List.eq_nil_of_length_eq_zero (by omega)) | exact .inr (fun g o e => by cases e; rfl))⟩
  case rest =>
  clear S HD hg hc1
  obtain ⟨S, hsl⟩ := hcut
  have hin := HR.out
  clear HR
  have hxok := St.rinsF_ok k t htl
  unfold St.rinsF at hin hxok
  dsimp only at hin hxok
  obtain ⟨⟨l1, v1⟩, ho⟩ : ∃ x, St.ropR t = x := ⟨_, rfl⟩
  rw [ho] at hin hxok
  dsimp only at hin hxok
  have HIN := Lib.hid hin
  clear hin
  go_step
  go_step
  have hsub := St.ropR_sub t
  rw [ho] at hsub
  go_cut [4] from 6 (fun s4 wx => RSt w wx w.heap.size Kx ⟨k, v1, 0, 0, 0, [], []⟩ ∧ Sl wx s4 l1)
  case first =>
    clear HIN hsub
    have HGv := Lib.hid (rgiven_any _ t St.lOp _ hsl)
    unfold St.ropR at ho
    by_cases h0 : t.head? = some St.lOp
    · rw [if_pos h0] at ho
      have hgv : St.givenR t St.lOp = (t.tail, true) := if_pos h0
      rw [hgv] at HGv
      dsimp only at HGv
      obtain ⟨t1, ht1⟩ : ∃ x, t.tail = x := ⟨_, rfl⟩
      rw [ht1] at HGv ho
      unfold St.lOp at HGv
      clear hgv h0 ht1
      rcases t1 with _ | ⟨u, t2⟩
      · cases ho
        go_wp2_with (go_at_call 103; refine HGv.out.mono ?_; rintro e w2 ⟨⟨v2, rfl, A2, c2, rfl, hr2, hc2⟩, rfl⟩)
        go_meet
        exact ⟨S, hsl⟩
      · have HFi := Lib.hid (fun W => rfind5_any u W)
        rw [found_eq u] at HFi
        obtain ⟨⟨fo, fb⟩, hfo⟩ : ∃ x, St.opFind u = x := ⟨_, rfl⟩
        dsimp only at ho
        rw [hfo] at HFi ho
        dsimp only at HFi ho
        obtain ⟨rfl, rfl⟩ : t2 = l1 ∧ fo = v1 := by injection ho with a b; exact ⟨a, b⟩
        have x0 : (0 : Int) < (t2.length : Int) + 1 := by omega
        clear hfo
        go_upto_region 9 with (first
          | (go_at_call 103; refine HGv.out.mono ?_; rintro e w2 ⟨⟨v2, rfl, A2, c2, rfl, hr2, hc2⟩, rfl⟩; obtain ⟨g2, o2, rfl, hg2, hh⟩ := hr2 (by simp); have f0 := hh 0 (by simp) 0 _ rfl; simp only [Nat.zero_mul, Nat.add_zero, List.getElem_cons_zero] at f0; simp only [List.length_cons] at hc2; have HR2 := Lib.hid hr2; clear hr2 hh)
          | (go_at_call 104; refine (HFi.out _).mono ?_; rintro e w3 ⟨rfl, hb⟩; have S2 := S.below hb; have HC := Lib.hid (fun (o' c' : Nat) (ho : t2 = [] ∨ o' = o2 + 1) (hc' : t2.length ≤ c') => S2.sl (Sl.on (Sl.cut HR2.out ho hc') hb) 1 (.int .i64 fo)); clear hb f0))
        have q1 := (S2.cells 1 (by omega)).1
        obtain ⟨q0, q2⟩ := (S2.cells 1 (by omega)).2
        have q3 := S2.ltx
        have S4 := Lib.hid (S2.setOp fo)
        go_wp2
        all_goals go_meet
        all_goals exact ⟨S4.out, HC.out _ _ (by first | exact .inr rfl | exact .inl (List.eq_nil_of_length_eq_zero (by omega))) (by omega)⟩
    · rw [if_neg h0] at ho
      have hgv : St.givenR t St.lOp = (t, false) := if_neg h0
      rw [hgv] at HGv
      dsimp only at HGv
      unfold St.lOp at HGv
      cases ho
      go_wp2_with (go_at_call 103; refine HGv.out.mono ?_; rintro e w2 ⟨⟨v2, rfl, A2, c2, rfl, hr2, hc2⟩, rfl⟩)
      go_meet
      exact ⟨S, hsl⟩
  case rest =>
  clear S hsl ho
  obtain ⟨S, hsl⟩ := hcut
  have hin := HIN.out
  clear HIN
  have hsub1 := St.oneR_sub l1 St.lA
  obtain ⟨⟨l2, v2⟩, h2⟩ : ∃ x, St.oneR l1 St.lA = x := ⟨_, rfl⟩
  have hw1 : ∀ u ∈ l1, u.length ≤ 1000000 := fun u hu => hwt u (hsub.1 u hu)
  have HO1 := Lib.hid (rone_any _ l1 hw1 St.lA _ hsl)
  rw [h2] at hin hxok hsub1 HO1
  dsimp only at hin hxok hsub1 HO1
  have hsub2 := St.oneR_sub l2 St.lB
  obtain ⟨⟨l3, v3⟩, h3⟩ : ∃ x, St.oneR l2 St.lB = x := ⟨_, rfl⟩
  have hw2 : ∀ u ∈ l2, u.length ≤ 1000000 := fun u hu => hw1 u (hsub1.1 u hu)
  have HO2 := Lib.hid (fun v W (h : Sl W v l2) => rone_any v l2 hw2 St.lB W h)
  rw [h3] at hin hxok hsub2 HO2
  dsimp only at hin hxok hsub2 HO2
  have hw3 : ∀ u ∈ l3, u.length ≤ 1000000 := fun u hu => hw2 u (hsub2.1 u hu)
  have hl3 : l3.length ≤ 9000 := by have := hsub.2; have := hsub1.2; have := hsub2.2; dsimp only at *; omega
  have HIN := Lib.hid hin
  have HW3 := Lib.hid hw3
  unfold St.lA at HO1
  unfold St.lB at HO2
  clear hin h2 h3 hsub hsub1 hsub2 hw1 hw2 hw3
  have q1 := (S.cells 2 (by omega)).1
  obtain ⟨q0, q2⟩ := (S.cells 2 (by omega)).2
  have q3 := S.ltx
  go_upto_region 14 with (first
    | (go_at_call 105; with_reducible refine HO1.out.mono ?_; rintro e w2 ⟨⟨va, rfl, hsa⟩, rfl⟩; have HSA := Lib.hid hsa; clear hsa HO1 hsl)
    | (go_at_call 105; with_reducible refine (HO2.out _ _ HSA.out).mono ?_; rintro e w3 ⟨⟨vb, rfl, hsb⟩, rfl⟩; have HSB := Lib.hid hsb; clear hsb HO2))
  have S2 := S.setA v2
  have hs2 := S.sl HSB.out 2 (.int .i64 v2)
  clear q1 q0 q2 q3
  have q1 := (S2.cells 3 (by omega)).1
  obtain ⟨q0, q2⟩ := (S2.cells 3 (by omega)).2
  have q3 := S2.ltx
  have S3 := Lib.hid (S2.setB v3)
  have hs3 := Lib.hid (S2.sl hs2 3 (.int .i64 v3))
  clear S S2 HSA HSB hs2
  go_cut [4] from 6 (fun s4 wx => RSt w wx w.heap.size Kx ⟨k, v1, v2, v3, 0, [], []⟩ ∧ Sl wx s4 l3)
  case first =>
    go_wp2
    go_meet
    exact ⟨S3.out, hs3.out⟩
  case rest =>
  clear q1 q0 q2 q3 S3 hs3
  obtain ⟨S, hsl⟩ := hcut
  have hin := HIN.out
  clear HIN
  have hsub3 := St.rnR_sub l3
  obtain ⟨⟨l4, v4⟩, ho⟩ : ∃ x, St.rnR l3 = x := ⟨_, rfl⟩
  rw [ho] at hin hxok hsub3
  dsimp only at hin hxok hsub3
  have HIN := Lib.hid hin
  clear hin
  go_step
  go_step
  go_cut [4] from 6 (fun s4 wx => RSt w wx w.heap.size Kx ⟨k, v1, v2, v3, v4, [], []⟩ ∧ Sl wx s4 l4)
  case first =>
    clear HIN hsub3
    have HGv := Lib.hid (rgiven_any _ l3 St.lN _ hsl)
    unfold St.rnR at ho
    by_cases h0 : l3.head? = some St.lN
    · rw [if_pos h0] at ho
      have hgv : St.givenR l3 St.lN = (l3.tail, true) := if_pos h0
      rw [hgv] at HGv
      dsimp only at HGv
      have hwt3 : ∀ u ∈ l3.tail, u.length ≤ 1000000 := fun u hu => HW3.out u (List.mem_of_mem_tail hu)
      obtain ⟨t1, ht1⟩ : ∃ x, l3.tail = x := ⟨_, rfl⟩
      rw [ht1] at HGv ho hwt3
      unfold St.lN at HGv
      clear hgv h0 ht1
      rcases t1 with _ | ⟨u, t2⟩
      · cases ho
        go_wp2_with (go_at_call 103; refine HGv.out.mono ?_; rintro e w2 ⟨⟨v2, rfl, A2, c2, rfl, hr2, hc2⟩, rfl⟩)
        go_meet
        exact ⟨S, hsl⟩
      · have hul := hwt3 u (by simp)
        have HFi := Lib.hid (fun W => rreadNat_any u hul W)
        obtain ⟨⟨fo, fb⟩, hfo⟩ : ∃ x, St.rdNat u = x := ⟨_, rfl⟩
        dsimp only at ho
        rw [hfo] at HFi ho
        dsimp only at HFi ho
        obtain ⟨rfl, rfl⟩ : t2 = l4 ∧ fo = v4 := by injection ho with a b; exact ⟨a, b⟩
        have x0 : (0 : Int) < (t2.length : Int) + 1 := by omega
        have HSS := Lib.hid S
        clear hfo hwt3 hul
        go_upto_region 18 with (first
          | (go_at_call 103; refine HGv.out.mono ?_; rintro e w2 ⟨⟨v2, rfl, A2, c2, rfl, hr2, hc2⟩, rfl⟩; obtain ⟨g2, o2, rfl, hg2, hh⟩ := hr2 (by simp); have f0 := hh 0 (by simp) 0 _ rfl; simp only [Nat.zero_mul, Nat.add_zero, List.getElem_cons_zero] at f0; simp only [List.length_cons] at hc2; have HC := Lib.hid (fun (o' c' : Nat) (ho : t2 = [] ∨ o' = o2 + 1) (hc' : t2.length ≤ c') => HSS.out.sl (Sl.cut hr2 ho hc') 4 (.int .u64 (fo : Int))); clear hr2 hh)
          | (go_at_call 106; refine (HFi.out _).mono ?_; rintro e w3 ⟨rfl, rfl⟩))
        have q1 := (S.cells 4 (by omega)).1
        obtain ⟨q0, q2⟩ := (S.cells 4 (by omega)).2
        have q3 := S.ltx
        have S4 := Lib.hid (S.setN fo)
        clear f0
        go_wp2
        all_goals go_meet
        all_goals exact ⟨S4.out, HC.out _ _ (by first | exact .inr rfl | exact .inl (List.eq_nil_of_length_eq_zero (by omega))) (by omega)⟩
    · rw [if_neg h0] at ho
      have hgv : St.givenR l3 St.lN = (l3, false) := if_neg h0
      rw [hgv] at HGv
      dsimp only at HGv
      unfold St.lN at HGv
      cases ho
      go_wp2_with (go_at_call 103; refine HGv.out.mono ?_; rintro e w2 ⟨⟨v2, rfl, A2, c2, rfl, hr2, hc2⟩, rfl⟩)
      go_meet
      exact ⟨S, hsl⟩
  case rest =>
  clear S hsl ho
  obtain ⟨S, hsl⟩ := hcut
  have hin := HIN.out
  clear HIN
  have hl4 : l4.length ≤ 9000 := Nat.le_trans hsub3.2 hl3
  have hw4 : ∀ u ∈ l4, u.length ≤ 1000000 := fun u hu => HW3.out u (hsub3.1 u hu)
  have HS1 := Lib.hid (rsome_any _ l4 (by omega) hw4 St.lOf _ hsl)
  have hsub4 := St.someR_sub l4 St.lOf
  obtain ⟨⟨l5, v5⟩, h5⟩ : ∃ x, St.someR l4 St.lOf = x := ⟨_, rfl⟩
  rw [h5] at hin hxok hsub4 HS1
  dsimp only at hin hxok hsub4 HS1
  have hl5 : l5.length ≤ 9000 := Nat.le_trans hsub4.2 hl4
  have hw5 : ∀ u ∈ l5, u.length ≤ 1000000 := fun u hu => hw4 u (hsub4.1 u hu)
  have HS2 := Lib.hid (fun v W h => rsome_any v l5 (by omega) hw5 St.lTo W h)
  obtain ⟨⟨l6, v6⟩, h6⟩ : ∃ x, St.someR l5 St.lTo = x := ⟨_, rfl⟩
  rw [h6] at hin hxok HS2
  dsimp only at hin hxok HS2
  unfold St.lOf at HS1
  unfold St.lTo at HS2
  have HIN := Lib.hid hin
  clear hin h5 h6 hsub4 hsub3 hw4 hw5 hl4 hl5 HW3
  have hK1 := S.res.lt
  have hKx := S.ltx
  have hsz := S.bel.size
  go_upto_region 22 with (first
    | (go_at_call 107; with_reducible refine HS1.out.mono ?_; rintro e w2 ⟨⟨va, A5, c5, rfl, hsa, hz⟩, hb⟩; have S2 := S.below hb; have HSA := Lib.hid hsa; have HZ5 := Lib.hid (hz.mono (S' := fun g => w.heap.size ≤ g ∧ g ≠ w.heap.size ∧ g ≠ Kx) (fun g _ h => ⟨Nat.le_trans hsz h, Nat.ne_of_gt (Nat.lt_of_lt_of_le hK1 h), Nat.ne_of_gt (Nat.lt_of_lt_of_le hKx h)⟩)); have hsz2 := hb.size; clear hsa hz hb HS1 hsl S)
    | (go_at_call 107; with_reducible refine (HS2.out _ _ HSA.out).mono ?_; rintro e w3 ⟨⟨vb, A6, c6, rfl, hsb, hz⟩, hb⟩; have S3 := S2.below hb; have HZ5' := Lib.hid (HZ5.out.on hb); have HZ6 := Lib.hid (hz.mono (S' := fun g => w.heap.size ≤ g ∧ g ≠ w.heap.size ∧ g ≠ Kx) (fun g _ h => ⟨Nat.le_trans (Nat.le_trans hsz hsz2) h, Nat.ne_of_gt (Nat.lt_of_lt_of_le (Nat.lt_of_lt_of_le hK1 hsz2) h), Nat.ne_of_gt (Nat.lt_of_lt_of_le (Nat.lt_of_lt_of_le hKx hsz2) h)⟩)); have HSB := Lib.hid hsb; clear hsb hz hb HS2 HSA HZ5 S2))
  have q1 := (S3.cells 5 (by omega)).1
  obtain ⟨q0, q2⟩ := (S3.cells 5 (by omega)).2
  have q3 := S3.ltx
  have S4 := S3.setArgs (c := c5) HZ5'.out
  have hs4 := S3.sl HSB.out 5 (.slice A5 v5.length c5)
  have HZ6' := Lib.hid (HZ6.out.keep (keep_grown (grown_set w3 Kx 5 (.slice A5 v5.length c5)) (fun h => h.2.2 rfl)) (grown_set w3 Kx 5 (.slice A5 v5.length c5)).size)
  go_upto_region 23 with fail
  clear q1 q0 q2 q3
  have q1 := (S4.cells 6 (by omega)).1
  obtain ⟨q0, q2⟩ := (S4.cells 6 (by omega)).2
  have q3 := S4.ltx
  have S5 := Lib.hid (S4.setOuts (c := c6) HZ6'.out)
  have hs5 := Lib.hid (S4.sl hs4 6 (.slice A6 v6.length c6))
  clear S3 S4 hs4 HSB HZ5' HZ6 HZ6'
  go_upto_region 24 with fail
  refine at_code (F := fun W => RSt w W w.heap.size Kx ⟨k, v1, v2, v3, v4, v5, v6⟩ ∧ Sl W vb l6) ⟨S5.out, hs5.out⟩ ?_
  clear q1 q0 q2 q3 S5 hs5 hK1 hKx hsz hsz2
  rintro W ⟨S, hsl⟩
  obtain ⟨A4, c4, rfl, -, -⟩ := hsl
  have HR := Lib.hid HIN.out.symm
  clear HIN
  obtain ⟨A, c, B, d, hv, h5, h6⟩ := S.cur
  have hv' : Var W Kx #[.int .i64 k, .int .i64 v1, .int .i64 v2, .int .i64 v3, .int .u64 (v4 : Int), .slice A v5.length c, .slice B v6.length d] 48 := hv
  obtain ⟨c0, c1_, c2_, c3_, c4_, c5_, c6_⟩ := cells7 hv'
  have VR := S.res
  have hKx := S.ltx
  have hKz := VR.lt
  have hne := S.l1
  have BEL := Lib.hid S.bel
  have R5 := Lib.hid h5
  have R6 := Lib.hid h6
  have HX := Lib.hid hxok
  clear hv hv' S h5 h6
  rcases l6 with _ | ⟨u, l6⟩
  · rcases hk0 : decide (0 ≤ k) with _ | _
    · have k0 : ¬ (0 : Int) ≤ k := by simpa using hk0
      have k1 : decide ((0 : Int) ≤ k) = false := hk0
      have HR : Hid (R = ((⟨k, v1, v2, v3, v4, v5, v6⟩ : St.Ins), false)) := Lib.hid (by rw [HR.out, hk0]; rfl)
      clear hk0
      have SS : (fun W' => W'.cell? ⟨Kx, 0, none⟩ = some (.int .i64 k) ∧ W'.cell? ⟨Kx, 1, none⟩ = some (.int .i64 v1) ∧ W'.cell? ⟨Kx, 2, none⟩ = some (.int .i64 v2) ∧ W'.cell? ⟨Kx, 3, none⟩ = some (.int .i64 v3) ∧ W'.cell? ⟨Kx, 4, none⟩ = some (.int .u64 (v4 : Int)) ∧ W'.cell? ⟨Kx, 5, none⟩ = some (.slice A v5.length c) ∧ W'.cell? ⟨Kx, 6, none⟩ = some (.slice B v6.length d)) (World.drew W) := ⟨c0, c1_, c2_, c3_, c4_, c5_, c6_⟩
      dsimp only at SS
      have SSc := SS
      obtain ⟨t0, t1, t2, t3, t4, t5, t6⟩ := SSc
      have VD : (World.drew W).heap[w.heap.size]? = some (.cells #[.int .i64 0, .int .i64 0, .int .i64 0, .int .i64 0, .int .u64 0, .slice none 0 0, .slice none 0 0] 48 (0, 0)) := VR
      refine wp_region_held_drew (S := (fun W' => W'.cell? ⟨Kx, 0, none⟩ = some (.int .i64 k) ∧ W'.cell? ⟨Kx, 1, none⟩ = some (.int .i64 v1) ∧ W'.cell? ⟨Kx, 2, none⟩ = some (.int .i64 v2) ∧ W'.cell? ⟨Kx, 3, none⟩ = some (.int .i64 v3) ∧ W'.cell? ⟨Kx, 4, none⟩ = some (.int .u64 (v4 : Int)) ∧ W'.cell? ⟨Kx, 5, none⟩ = some (.slice A v5.length c) ∧ W'.cell? ⟨Kx, 6, none⟩ = some (.slice B v6.length d))) (by kernel_rfl) ?_ (fun hHeld0 => ?_)
      · first | assumption | go_keep
      refine tk (i := 0) (oi := ⟨some 116, .load 48 (.tmp 5), 48, "ref.go:250", #[], none⟩) rfl ?_; (try simp only [Act.put, List.setIfInBounds_toArray, List.set_cons_succ, List.set_cons_zero])
      refine tk (i := 1) (oi := ⟨some 117, .move (.tmp 4), 54, "ref.go:250", #[], none⟩) rfl ?_; (try simp only [Act.put, List.setIfInBounds_toArray, List.set_cons_succ, List.set_cons_zero])
      refine tk (i := 2) (oi := ⟨some 118, .call { callee := .builtin .len, args := #[.tmp 117], argTypes := #[54] }, 3, "ref.go:250", #[⟨1, .data⟩], none⟩) rfl ?_; (try simp only [Act.put, List.setIfInBounds_toArray, List.set_cons_succ, List.set_cons_zero])
      refine tk (i := 3) (oi := ⟨some 119, .binOp .eql 3 (.tmp 118) (.const (.int .i64 0)) 3, 4, "ref.go:250", #[⟨2, .data⟩], none⟩) rfl ?_; (try simp only [Act.put, List.setIfInBounds_toArray, List.set_cons_succ, List.set_cons_zero])
      refine tk (i := 4) (oi := ⟨some 120, .move (.tmp 119), 4, "ref.go:250", #[⟨3, .data⟩], none⟩) rfl ?_; (try simp only [Act.put, List.setIfInBounds_toArray, List.set_cons_succ, List.set_cons_zero])
      refine tk (i := 5) (oi := ⟨some 121, .fieldAddr 48 (.tmp 5) 0, 0, "ref.go:250", #[⟨4, .guard⟩], some (4, true)⟩) rfl ?_; (try simp only [Act.put, List.setIfInBounds_toArray, List.set_cons_succ, List.set_cons_zero])
      refine tk (i := 6) (oi := ⟨some 122, .load 3 (.tmp 121), 3, "ref.go:250", #[⟨5, .data⟩, ⟨4, .guard⟩], some (4, true)⟩) rfl ?_; (try simp only [Act.put, List.setIfInBounds_toArray, List.set_cons_succ, List.set_cons_zero])
      refine tk (i := 7) (oi := ⟨some 123, .binOp .geq 3 (.tmp 122) (.const (.int .i64 0)) 3, 4, "ref.go:250", #[⟨6, .data⟩, ⟨4, .guard⟩], some (4, true)⟩) rfl ?_; (try simp only [Act.put, List.setIfInBounds_toArray, List.set_cons_succ, List.set_cons_zero])
      refine tk (i := 8) (oi := ⟨some 124, .pick (.tmp 120) (.tmp 123) (.const (.bool false)), 4, "ref.go:250", #[⟨4, .data⟩, ⟨7, .data⟩], none⟩) rfl ?_; (try simp only [Act.put, List.setIfInBounds_toArray, List.set_cons_succ, List.set_cons_zero])
      refine tk (i := 9) (oi := ⟨some 125, .move (.tmp 124), 4, "ref.go:250", #[⟨8, .data⟩, ⟨4, .chain⟩], none⟩) rfl ?_; (try simp only [Act.put, List.setIfInBounds_toArray, List.set_cons_succ, List.set_cons_zero])
      refine tkN (i := 10) (oi := ⟨some 126, .load 48 (.tmp 5), 48, "ref.go:250", #[⟨9, .guard⟩], some (9, true)⟩) rfl ?_; (try simp only [Act.put, List.setIfInBounds_toArray, List.set_cons_succ, List.set_cons_zero])
      refine tkN (i := 11) (oi := ⟨some 127, .call { callee := .value (.func 26), args := #[.tmp 126], argTypes := #[48] }, 9, "ref.go:250", #[⟨10, .data⟩, ⟨9, .chain⟩, ⟨9, .guard⟩], some (9, true)⟩) rfl ?_; (try simp only [Act.put, List.setIfInBounds_toArray, List.set_cons_succ, List.set_cons_zero])
      refine tkN (i := 12) (oi := ⟨some 128, .move (.tmp 0), 9, "ref.go:250", #[⟨9, .guard⟩, { on := 16, ground := .gcOnly Go.Departure.lateStores }], some (9, true)⟩) rfl ?_; (try simp only [Act.put, List.setIfInBounds_toArray, List.set_cons_succ, List.set_cons_zero])
      refine tkN (i := 13) (oi := ⟨some 129, .binOp .add 9 (.tmp 128) (.const (.string { data := #[10] })) 9, 9, "ref.go:250", #[⟨12, .data⟩, ⟨9, .guard⟩, { on := 16, ground := .gcOnly Go.Departure.lateStores }], some (9, true)⟩) rfl ?_; (try simp only [Act.put, List.setIfInBounds_toArray, List.set_cons_succ, List.set_cons_zero])
      refine tkN (i := 14) (oi := ⟨some 130, .binOp .eql 9 (.tmp 127) (.tmp 129) 9, 4, "ref.go:250", #[⟨11, .data⟩, ⟨13, .data⟩, ⟨9, .guard⟩, { on := 16, ground := .gcOnly Go.Departure.lateStores }], some (9, true)⟩) rfl ?_; (try simp only [Act.put, List.setIfInBounds_toArray, List.set_cons_succ, List.set_cons_zero])
      refine tk (i := 15) (oi := ⟨some 131, .pick (.tmp 125) (.tmp 130) (.const (.bool false)), 4, "ref.go:250", #[⟨9, .data⟩, ⟨14, .data⟩, { on := 16, ground := .gcOnly Go.Departure.lateStores }], none⟩) rfl ?_; (try simp only [Act.put, List.setIfInBounds_toArray, List.set_cons_succ, List.set_cons_zero])
      refine wpAnyH_ready (rs := [16]) (by kernel_rfl) (by simp) ?_
      refine AllReadyH.cons (o := ⟨none, .store 48 (.tmp 2) (.tmp 116), 0, "ref.go:250", #[⟨0, .data⟩, ⟨11, .chain⟩, ⟨0, .phase⟩, { on := 1, ground := .textOnly Go.Departure.lateStores }, { on := 2, ground := .textOnly Go.Departure.lateStoresUnsure }, { on := 3, ground := .textOnly Go.Departure.lateStores }, { on := 4, ground := .textOnly Go.Departure.lateStores }, { on := 5, ground := .textOnly Go.Departure.lateStores }, { on := 6, ground := .textOnly Go.Departure.lateStores }, { on := 7, ground := .textOnly Go.Departure.lateStores }, { on := 8, ground := .textOnly Go.Departure.lateStores }, { on := 9, ground := .textOnly Go.Departure.lateStores }, { on := 10, ground := .textOnly Go.Departure.lateStores }, { on := 11, ground := .textOnly Go.Departure.lateStoresUnsure }, { on := 12, ground := .textOnly Go.Departure.lateStores }, { on := 13, ground := .textOnly Go.Departure.lateStores }, { on := 14, ground := .textOnly Go.Departure.lateStores }, { on := 15, ground := .textOnly Go.Departure.lateStores }], none⟩) rfl (fun K hK => ?_) AllReadyH.nil
      (rw [if_pos (by rfl)]; refine wp_store_row 48 (.tmp 2) (.tmp 116) rfl w.heap.size #[.int .i64 k, .int .i64 v1, .int .i64 v2, .int .i64 v3, .int .u64 (v4 : Int), .slice A v5.length c, .slice B v6.length d] rfl rfl 48 #[.int .i64 0, .int .i64 0, .int .i64 0, .int .i64 0, .int .u64 0, .slice none 0 0, .slice none 0 0] VD info_sins rfl (by simp [Value.oneCell']) ?_; have gS := setRow_grown (World.drew W) w.heap.size #[.int .i64 k, .int .i64 v1, .int .i64 v2, .int .i64 v3, .int .u64 (v4 : Int), .slice A v5.length c, .slice B v6.length d]; have SS2 : (fun W' => W'.cell? ⟨Kx, 0, none⟩ = some (.int .i64 k) ∧ W'.cell? ⟨Kx, 1, none⟩ = some (.int .i64 v1) ∧ W'.cell? ⟨Kx, 2, none⟩ = some (.int .i64 v2) ∧ W'.cell? ⟨Kx, 3, none⟩ = some (.int .i64 v3) ∧ W'.cell? ⟨Kx, 4, none⟩ = some (.int .u64 (v4 : Int)) ∧ W'.cell? ⟨Kx, 5, none⟩ = some (.slice A v5.length c) ∧ W'.cell? ⟨Kx, 6, none⟩ = some (.slice B v6.length d)) ((World.drew W).setRow w.heap.size #[.int .i64 k, .int .i64 v1, .int .i64 v2, .int .i64 v3, .int .u64 (v4 : Int), .slice A v5.length c, .slice B v6.length d]) := ⟨gS.cell t0 (by simp; omega), gS.cell t1 (by simp; omega), gS.cell t2 (by simp; omega), gS.cell t3 (by simp; omega), gS.cell t4 (by simp; omega), gS.cell t5 (by simp; omega), gS.cell t6 (by simp; omega)⟩; dsimp only at SS2)
      (try dsimp only)
      refine hK.out _ _ ?_ (fun hHeld1 => ?_)
      · first | trivial | ((try dsimp only); first | assumption | trivial | go_keep)
      clear hK K hHeld0
      (try simp only [Act.put, List.setIfInBounds_toArray, List.set_cons_succ, List.set_cons_zero])
      refine tk (i := 17) (oi := ⟨some 3, .assign (.tmp 131), 4, "ref.go:250", #[⟨15, .data⟩, ⟨16, .chain⟩, ⟨0, .phase⟩, ⟨1, .phase⟩, ⟨2, .phase⟩, ⟨3, .phase⟩, ⟨4, .phase⟩, ⟨5, .phase⟩, ⟨6, .phase⟩, ⟨7, .phase⟩, ⟨8, .phase⟩, ⟨9, .phase⟩, ⟨10, .phase⟩, ⟨11, .phase⟩, ⟨12, .phase⟩, ⟨13, .phase⟩, ⟨14, .phase⟩, ⟨15, .phase⟩, ⟨16, .phase⟩], none⟩) rfl ?_; (try simp only [Act.put, List.setIfInBounds_toArray, List.set_cons_succ, List.set_cons_zero])
      refine wpAnyH_done (by kernel_rfl) ?_ _
      (try dsimp only)
      repeat (first | go_values | go_skip | go_guarded | go_step | go_upon)
      have fin := rinFin BEL.out (below_drewN W 1) R5.out R6.out #[.int .i64 k, .int .i64 v1, .int .i64 v2, .int .i64 v3, .int .u64 (v4 : Int), .slice A v5.length c, .slice B v6.length d]
      refine bodyPost_ret (results_cell_row_tmp rfl _ _ w.heap.size _ #[.int .i64 k, .int .i64 v1, .int .i64 v2, .int .i64 v3, .int .u64 (v4 : Int), .slice A v5.length c, .slice B v6.length d] (0, 0) _ rfl (setRow_heap (World.drew W) w.heap.size #[.int .i64 0, .int .i64 0, .int .i64 0, .int .i64 0, .int .u64 0, .slice none 0 0, .slice none 0 0] _ _ (0, 0) VR) Tryz.underlying48 rfl (by kernel_rfl)) rfl ?_
      obtain rfl := HR.out
      exact ⟨⟨A, c, B, d, rfl, fin.2.1, fin.2.2⟩, fin.1⟩
    · have k0 : (0 : Int) ≤ k := by simpa using hk0
      have k1 : decide ((0 : Int) ≤ k) = true := hk0
      have HIns := Lib.hid (fun W' (h1 : RdS W' W'.heap.size A 1 encZ v5) (h2 : RdS W' W'.heap.size B 1 encZ v6) => rins_any ⟨k, v1, v2, v3, v4, v5, v6⟩ HX.out ⟨k0, HKR.out k0⟩ A c B d W' h1 h2)
      unfold insV at HIns
      dsimp only at HIns
      have hcat : (ByteArray.mk s.toArray ++ ByteArray.mk #[10]) = ByteArray.mk (s ++ [10]).toArray := cat_mk s [10]
      have hlen : ¬ (9223372036854775807 < s.length + 1) := by omega
      by_cases he : St.insR ⟨k, v1, v2, v3, v4, v5, v6⟩ = s ++ [10]
      · have HR : Hid (R = ((⟨k, v1, v2, v3, v4, v5, v6⟩ : St.Ins), true)) := Lib.hid (by rw [HR.out, hk0, he]; simp)
        rw [he] at HIns
        clear hk0 he
        have SS : (fun W' => W'.cell? ⟨Kx, 0, none⟩ = some (.int .i64 k) ∧ W'.cell? ⟨Kx, 1, none⟩ = some (.int .i64 v1) ∧ W'.cell? ⟨Kx, 2, none⟩ = some (.int .i64 v2) ∧ W'.cell? ⟨Kx, 3, none⟩ = some (.int .i64 v3) ∧ W'.cell? ⟨Kx, 4, none⟩ = some (.int .u64 (v4 : Int)) ∧ W'.cell? ⟨Kx, 5, none⟩ = some (.slice A v5.length c) ∧ W'.cell? ⟨Kx, 6, none⟩ = some (.slice B v6.length d)) (World.drew W) := ⟨c0, c1_, c2_, c3_, c4_, c5_, c6_⟩
        dsimp only at SS
        have SSc := SS
        obtain ⟨t0, t1, t2, t3, t4, t5, t6⟩ := SSc
        have VD : (World.drew W).heap[w.heap.size]? = some (.cells #[.int .i64 0, .int .i64 0, .int .i64 0, .int .i64 0, .int .u64 0, .slice none 0 0, .slice none 0 0] 48 (0, 0)) := VR
        refine wp_region_held_drew (S := (fun W' => W'.cell? ⟨Kx, 0, none⟩ = some (.int .i64 k) ∧ W'.cell? ⟨Kx, 1, none⟩ = some (.int .i64 v1) ∧ W'.cell? ⟨Kx, 2, none⟩ = some (.int .i64 v2) ∧ W'.cell? ⟨Kx, 3, none⟩ = some (.int .i64 v3) ∧ W'.cell? ⟨Kx, 4, none⟩ = some (.int .u64 (v4 : Int)) ∧ W'.cell? ⟨Kx, 5, none⟩ = some (.slice A v5.length c) ∧ W'.cell? ⟨Kx, 6, none⟩ = some (.slice B v6.length d))) (by kernel_rfl) ?_ (fun hHeld0 => ?_)
        · first | assumption | go_keep
        refine tk (i := 0) (oi := ⟨some 116, .load 48 (.tmp 5), 48, "ref.go:250", #[], none⟩) rfl ?_; (try simp only [Act.put, List.setIfInBounds_toArray, List.set_cons_succ, List.set_cons_zero])
        refine tk (i := 1) (oi := ⟨some 117, .move (.tmp 4), 54, "ref.go:250", #[], none⟩) rfl ?_; (try simp only [Act.put, List.setIfInBounds_toArray, List.set_cons_succ, List.set_cons_zero])
        refine tk (i := 2) (oi := ⟨some 118, .call { callee := .builtin .len, args := #[.tmp 117], argTypes := #[54] }, 3, "ref.go:250", #[⟨1, .data⟩], none⟩) rfl ?_; (try simp only [Act.put, List.setIfInBounds_toArray, List.set_cons_succ, List.set_cons_zero])
        refine tk (i := 3) (oi := ⟨some 119, .binOp .eql 3 (.tmp 118) (.const (.int .i64 0)) 3, 4, "ref.go:250", #[⟨2, .data⟩], none⟩) rfl ?_; (try simp only [Act.put, List.setIfInBounds_toArray, List.set_cons_succ, List.set_cons_zero])
        refine tk (i := 4) (oi := ⟨some 120, .move (.tmp 119), 4, "ref.go:250", #[⟨3, .data⟩], none⟩) rfl ?_; (try simp only [Act.put, List.setIfInBounds_toArray, List.set_cons_succ, List.set_cons_zero])
        refine tk (i := 5) (oi := ⟨some 121, .fieldAddr 48 (.tmp 5) 0, 0, "ref.go:250", #[⟨4, .guard⟩], some (4, true)⟩) rfl ?_; (try simp only [Act.put, List.setIfInBounds_toArray, List.set_cons_succ, List.set_cons_zero])
        refine tk (i := 6) (oi := ⟨some 122, .load 3 (.tmp 121), 3, "ref.go:250", #[⟨5, .data⟩, ⟨4, .guard⟩], some (4, true)⟩) rfl ?_; (try simp only [Act.put, List.setIfInBounds_toArray, List.set_cons_succ, List.set_cons_zero])
        refine tk (i := 7) (oi := ⟨some 123, .binOp .geq 3 (.tmp 122) (.const (.int .i64 0)) 3, 4, "ref.go:250", #[⟨6, .data⟩, ⟨4, .guard⟩], some (4, true)⟩) rfl ?_; (try simp only [Act.put, List.setIfInBounds_toArray, List.set_cons_succ, List.set_cons_zero])
        refine tk (i := 8) (oi := ⟨some 124, .pick (.tmp 120) (.tmp 123) (.const (.bool false)), 4, "ref.go:250", #[⟨4, .data⟩, ⟨7, .data⟩], none⟩) rfl ?_; (try simp only [Act.put, List.setIfInBounds_toArray, List.set_cons_succ, List.set_cons_zero])
        refine tk (i := 9) (oi := ⟨some 125, .move (.tmp 124), 4, "ref.go:250", #[⟨8, .data⟩, ⟨4, .chain⟩], none⟩) rfl ?_; (try simp only [Act.put, List.setIfInBounds_toArray, List.set_cons_succ, List.set_cons_zero])
        refine tk (i := 10) (oi := ⟨some 126, .load 48 (.tmp 5), 48, "ref.go:250", #[⟨9, .guard⟩], some (9, true)⟩) rfl ?_; (try simp only [Act.put, List.setIfInBounds_toArray, List.set_cons_succ, List.set_cons_zero])
        refine tk (i := 12) (oi := ⟨some 128, .move (.tmp 0), 9, "ref.go:250", #[⟨9, .guard⟩, { on := 16, ground := .gcOnly Go.Departure.lateStores }], some (9, true)⟩) rfl ?_; (try simp only [Act.put, List.setIfInBounds_toArray, List.set_cons_succ, List.set_cons_zero])
        refine tk (i := 13) (oi := ⟨some 129, .binOp .add 9 (.tmp 128) (.const (.string { data := #[10] })) 9, 9, "ref.go:250", #[⟨12, .data⟩, ⟨9, .guard⟩, { on := 16, ground := .gcOnly Go.Departure.lateStores }], some (9, true)⟩) rfl ?_; (try simp only [Act.put, List.setIfInBounds_toArray, List.set_cons_succ, List.set_cons_zero])
        refine wpAnyH_ready (rs := [11]) (by kernel_rfl) (by simp) ?_
        refine AllReadyH.cons (o := ⟨some 127, .call { callee := .value (.func 26), args := #[.tmp 126], argTypes := #[48] }, 9, "ref.go:250", #[⟨10, .data⟩, ⟨9, .chain⟩, ⟨9, .guard⟩], some (9, true)⟩) rfl (fun K hK => ?_) AllReadyH.nil
        go_simp
        (refine (HIns.out (World.drew W) (show RdS (World.drew W) _ A 1 encZ v5 from R5.out.rds) (show RdS (World.drew W) _ B 1 encZ v6 from R6.out.rds)).mono ?_; rintro e w5 ⟨rfl, hb5⟩; have U5 := Lib.hid ((below_drewN W 1).trans (hb5.mono (Nat.le_refl _))); have V5 := var_keep VR U5.out; have kp := Below.keep U5.out (fun _ => True); have d0 := kp _ _ trivial c0; have d1 := kp _ _ trivial c1_; have d2 := kp _ _ trivial c2_; have d3 := kp _ _ trivial c3_; have d4 := kp _ _ trivial c4_; have d5 := kp _ _ trivial c5_; have d6 := kp _ _ trivial c6_; clear kp hb5; have SS5 : (fun W' => W'.cell? ⟨Kx, 0, none⟩ = some (.int .i64 k) ∧ W'.cell? ⟨Kx, 1, none⟩ = some (.int .i64 v1) ∧ W'.cell? ⟨Kx, 2, none⟩ = some (.int .i64 v2) ∧ W'.cell? ⟨Kx, 3, none⟩ = some (.int .i64 v3) ∧ W'.cell? ⟨Kx, 4, none⟩ = some (.int .u64 (v4 : Int)) ∧ W'.cell? ⟨Kx, 5, none⟩ = some (.slice A v5.length c) ∧ W'.cell? ⟨Kx, 6, none⟩ = some (.slice B v6.length d)) w5 := ⟨d0, d1, d2, d3, d4, d5, d6⟩; dsimp only at SS5)
        (try dsimp only)
        refine hK.out _ _ ?_ (fun hHeld1 => ?_)
        · first | trivial | ((try dsimp only); first | assumption | trivial | go_keep)
        clear hK K hHeld0
        (try simp only [Act.put, List.setIfInBounds_toArray, List.set_cons_succ, List.set_cons_zero])
        refine tk (i := 14) (oi := ⟨some 130, .binOp .eql 9 (.tmp 127) (.tmp 129) 9, 4, "ref.go:250", #[⟨11, .data⟩, ⟨13, .data⟩, ⟨9, .guard⟩, { on := 16, ground := .gcOnly Go.Departure.lateStores }], some (9, true)⟩) rfl ?_; (try simp only [Act.put, List.setIfInBounds_toArray, List.set_cons_succ, List.set_cons_zero])
        refine tk (i := 15) (oi := ⟨some 131, .pick (.tmp 125) (.tmp 130) (.const (.bool false)), 4, "ref.go:250", #[⟨9, .data⟩, ⟨14, .data⟩, { on := 16, ground := .gcOnly Go.Departure.lateStores }], none⟩) rfl ?_; (try simp only [Act.put, List.setIfInBounds_toArray, List.set_cons_succ, List.set_cons_zero])
        refine wpAnyH_ready (rs := [16]) (by kernel_rfl) (by simp) ?_
        refine AllReadyH.cons (o := ⟨none, .store 48 (.tmp 2) (.tmp 116), 0, "ref.go:250", #[⟨0, .data⟩, ⟨11, .chain⟩, ⟨0, .phase⟩, { on := 1, ground := .textOnly Go.Departure.lateStores }, { on := 2, ground := .textOnly Go.Departure.lateStoresUnsure }, { on := 3, ground := .textOnly Go.Departure.lateStores }, { on := 4, ground := .textOnly Go.Departure.lateStores }, { on := 5, ground := .textOnly Go.Departure.lateStores }, { on := 6, ground := .textOnly Go.Departure.lateStores }, { on := 7, ground := .textOnly Go.Departure.lateStores }, { on := 8, ground := .textOnly Go.Departure.lateStores }, { on := 9, ground := .textOnly Go.Departure.lateStores }, { on := 10, ground := .textOnly Go.Departure.lateStores }, { on := 11, ground := .textOnly Go.Departure.lateStoresUnsure }, { on := 12, ground := .textOnly Go.Departure.lateStores }, { on := 13, ground := .textOnly Go.Departure.lateStores }, { on := 14, ground := .textOnly Go.Departure.lateStores }, { on := 15, ground := .textOnly Go.Departure.lateStores }], none⟩) rfl (fun K hK => ?_) AllReadyH.nil
        (rw [if_pos (by rfl)]; refine wp_store_row 48 (.tmp 2) (.tmp 116) rfl w.heap.size #[.int .i64 k, .int .i64 v1, .int .i64 v2, .int .i64 v3, .int .u64 (v4 : Int), .slice A v5.length c, .slice B v6.length d] rfl rfl 48 #[.int .i64 0, .int .i64 0, .int .i64 0, .int .i64 0, .int .u64 0, .slice none 0 0, .slice none 0 0] V5 info_sins rfl (by simp [Value.oneCell']) ?_; have gS := setRow_grown w5 w.heap.size #[.int .i64 k, .int .i64 v1, .int .i64 v2, .int .i64 v3, .int .u64 (v4 : Int), .slice A v5.length c, .slice B v6.length d]; have SS2 : (fun W' => W'.cell? ⟨Kx, 0, none⟩ = some (.int .i64 k) ∧ W'.cell? ⟨Kx, 1, none⟩ = some (.int .i64 v1) ∧ W'.cell? ⟨Kx, 2, none⟩ = some (.int .i64 v2) ∧ W'.cell? ⟨Kx, 3, none⟩ = some (.int .i64 v3) ∧ W'.cell? ⟨Kx, 4, none⟩ = some (.int .u64 (v4 : Int)) ∧ W'.cell? ⟨Kx, 5, none⟩ = some (.slice A v5.length c) ∧ W'.cell? ⟨Kx, 6, none⟩ = some (.slice B v6.length d)) (w5.setRow w.heap.size #[.int .i64 k, .int .i64 v1, .int .i64 v2, .int .i64 v3, .int .u64 (v4 : Int), .slice A v5.length c, .slice B v6.length d]) := ⟨gS.cell d0 (by simp; omega), gS.cell d1 (by simp; omega), gS.cell d2 (by simp; omega), gS.cell d3 (by simp; omega), gS.cell d4 (by simp; omega), gS.cell d5 (by simp; omega), gS.cell d6 (by simp; omega)⟩; dsimp only at SS2)
        (try dsimp only)
        refine hK.out _ _ ?_ (fun hHeld2 => ?_)
        · first | trivial | ((try dsimp only); first | assumption | trivial | go_keep)
        clear hK K hHeld1
        (try simp only [Act.put, List.setIfInBounds_toArray, List.set_cons_succ, List.set_cons_zero])
        refine tk (i := 17) (oi := ⟨some 3, .assign (.tmp 131), 4, "ref.go:250", #[⟨15, .data⟩, ⟨16, .chain⟩, ⟨0, .phase⟩, ⟨1, .phase⟩, ⟨2, .phase⟩, ⟨3, .phase⟩, ⟨4, .phase⟩, ⟨5, .phase⟩, ⟨6, .phase⟩, ⟨7, .phase⟩, ⟨8, .phase⟩, ⟨9, .phase⟩, ⟨10, .phase⟩, ⟨11, .phase⟩, ⟨12, .phase⟩, ⟨13, .phase⟩, ⟨14, .phase⟩, ⟨15, .phase⟩, ⟨16, .phase⟩], none⟩) rfl ?_; (try simp only [Act.put, List.setIfInBounds_toArray, List.set_cons_succ, List.set_cons_zero])
        refine wpAnyH_done (by kernel_rfl) ?_ _
        (try dsimp only)
        repeat (first | go_values | go_skip | go_guarded | go_step | go_upon)
        have fin := rinFin BEL.out U5.out R5.out R6.out #[.int .i64 k, .int .i64 v1, .int .i64 v2, .int .i64 v3, .int .u64 (v4 : Int), .slice A v5.length c, .slice B v6.length d]
        refine bodyPost_ret (results_cell_row_tmp rfl _ _ w.heap.size _ #[.int .i64 k, .int .i64 v1, .int .i64 v2, .int .i64 v3, .int .u64 (v4 : Int), .slice A v5.length c, .slice B v6.length d] (0, 0) _ rfl (setRow_heap w5 w.heap.size #[.int .i64 0, .int .i64 0, .int .i64 0, .int .i64 0, .int .u64 0, .slice none 0 0, .slice none 0 0] _ _ (0, 0) V5) Tryz.underlying48 rfl (by kernel_rfl)) rfl ?_
        obtain rfl := HR.out
        exact ⟨⟨A, c, B, d, rfl, fin.2.1, fin.2.2⟩, fin.1⟩
      · have hq2 : (St.insR ⟨k, v1, v2, v3, v4, v5, v6⟩ == s ++ [10]) = false := by simpa using he
        have HR : Hid (R = ((⟨k, v1, v2, v3, v4, v5, v6⟩ : St.Ins), false)) := Lib.hid (by rw [HR.out, hk0, hq2]; rfl)
        obtain ⟨J, hJ⟩ : ∃ x, St.insR ⟨k, v1, v2, v3, v4, v5, v6⟩ = x := ⟨_, rfl⟩
        rw [hJ] at HIns he hq2
        have hq := beq_no he
        clear hk0 he hJ
        have SS : (fun W' => W'.cell? ⟨Kx, 0, none⟩ = some (.int .i64 k) ∧ W'.cell? ⟨Kx, 1, none⟩ = some (.int .i64 v1) ∧ W'.cell? ⟨Kx, 2, none⟩ = some (.int .i64 v2) ∧ W'.cell? ⟨Kx, 3, none⟩ = some (.int .i64 v3) ∧ W'.cell? ⟨Kx, 4, none⟩ = some (.int .u64 (v4 : Int)) ∧ W'.cell? ⟨Kx, 5, none⟩ = some (.slice A v5.length c) ∧ W'.cell? ⟨Kx, 6, none⟩ = some (.slice B v6.length d)) (World.drew W) := ⟨c0, c1_, c2_, c3_, c4_, c5_, c6_⟩
        dsimp only at SS
        have SSc := SS
        obtain ⟨t0, t1, t2, t3, t4, t5, t6⟩ := SSc
        have VD : (World.drew W).heap[w.heap.size]? = some (.cells #[.int .i64 0, .int .i64 0, .int .i64 0, .int .i64 0, .int .u64 0, .slice none 0 0, .slice none 0 0] 48 (0, 0)) := VR
        refine wp_region_held_drew (S := (fun W' => W'.cell? ⟨Kx, 0, none⟩ = some (.int .i64 k) ∧ W'.cell? ⟨Kx, 1, none⟩ = some (.int .i64 v1) ∧ W'.cell? ⟨Kx, 2, none⟩ = some (.int .i64 v2) ∧ W'.cell? ⟨Kx, 3, none⟩ = some (.int .i64 v3) ∧ W'.cell? ⟨Kx, 4, none⟩ = some (.int .u64 (v4 : Int)) ∧ W'.cell? ⟨Kx, 5, none⟩ = some (.slice A v5.length c) ∧ W'.cell? ⟨Kx, 6, none⟩ = some (.slice B v6.length d))) (by kernel_rfl) ?_ (fun hHeld0 => ?_)
        · first | assumption | go_keep
        refine tk (i := 0) (oi := ⟨some 116, .load 48 (.tmp 5), 48, "ref.go:250", #[], none⟩) rfl ?_; (try simp only [Act.put, List.setIfInBounds_toArray, List.set_cons_succ, List.set_cons_zero])
        refine tk (i := 1) (oi := ⟨some 117, .move (.tmp 4), 54, "ref.go:250", #[], none⟩) rfl ?_; (try simp only [Act.put, List.setIfInBounds_toArray, List.set_cons_succ, List.set_cons_zero])
        refine tk (i := 2) (oi := ⟨some 118, .call { callee := .builtin .len, args := #[.tmp 117], argTypes := #[54] }, 3, "ref.go:250", #[⟨1, .data⟩], none⟩) rfl ?_; (try simp only [Act.put, List.setIfInBounds_toArray, List.set_cons_succ, List.set_cons_zero])
        refine tk (i := 3) (oi := ⟨some 119, .binOp .eql 3 (.tmp 118) (.const (.int .i64 0)) 3, 4, "ref.go:250", #[⟨2, .data⟩], none⟩) rfl ?_; (try simp only [Act.put, List.setIfInBounds_toArray, List.set_cons_succ, List.set_cons_zero])
        refine tk (i := 4) (oi := ⟨some 120, .move (.tmp 119), 4, "ref.go:250", #[⟨3, .data⟩], none⟩) rfl ?_; (try simp only [Act.put, List.setIfInBounds_toArray, List.set_cons_succ, List.set_cons_zero])
        refine tk (i := 5) (oi := ⟨some 121, .fieldAddr 48 (.tmp 5) 0, 0, "ref.go:250", #[⟨4, .guard⟩], some (4, true)⟩) rfl ?_; (try simp only [Act.put, List.setIfInBounds_toArray, List.set_cons_succ, List.set_cons_zero])
        refine tk (i := 6) (oi := ⟨some 122, .load 3 (.tmp 121), 3, "ref.go:250", #[⟨5, .data⟩, ⟨4, .guard⟩], some (4, true)⟩) rfl ?_; (try simp only [Act.put, List.setIfInBounds_toArray, List.set_cons_succ, List.set_cons_zero])
        refine tk (i := 7) (oi := ⟨some 123, .binOp .geq 3 (.tmp 122) (.const (.int .i64 0)) 3, 4, "ref.go:250", #[⟨6, .data⟩, ⟨4, .guard⟩], some (4, true)⟩) rfl ?_; (try simp only [Act.put, List.setIfInBounds_toArray, List.set_cons_succ, List.set_cons_zero])
        refine tk (i := 8) (oi := ⟨some 124, .pick (.tmp 120) (.tmp 123) (.const (.bool false)), 4, "ref.go:250", #[⟨4, .data⟩, ⟨7, .data⟩], none⟩) rfl ?_; (try simp only [Act.put, List.setIfInBounds_toArray, List.set_cons_succ, List.set_cons_zero])
        refine tk (i := 9) (oi := ⟨some 125, .move (.tmp 124), 4, "ref.go:250", #[⟨8, .data⟩, ⟨4, .chain⟩], none⟩) rfl ?_; (try simp only [Act.put, List.setIfInBounds_toArray, List.set_cons_succ, List.set_cons_zero])
        refine tk (i := 10) (oi := ⟨some 126, .load 48 (.tmp 5), 48, "ref.go:250", #[⟨9, .guard⟩], some (9, true)⟩) rfl ?_; (try simp only [Act.put, List.setIfInBounds_toArray, List.set_cons_succ, List.set_cons_zero])
        refine tk (i := 12) (oi := ⟨some 128, .move (.tmp 0), 9, "ref.go:250", #[⟨9, .guard⟩, { on := 16, ground := .gcOnly Go.Departure.lateStores }], some (9, true)⟩) rfl ?_; (try simp only [Act.put, List.setIfInBounds_toArray, List.set_cons_succ, List.set_cons_zero])
        refine tk (i := 13) (oi := ⟨some 129, .binOp .add 9 (.tmp 128) (.const (.string { data := #[10] })) 9, 9, "ref.go:250", #[⟨12, .data⟩, ⟨9, .guard⟩, { on := 16, ground := .gcOnly Go.Departure.lateStores }], some (9, true)⟩) rfl ?_; (try simp only [Act.put, List.setIfInBounds_toArray, List.set_cons_succ, List.set_cons_zero])
        refine wpAnyH_ready (rs := [11]) (by kernel_rfl) (by simp) ?_
        refine AllReadyH.cons (o := ⟨some 127, .call { callee := .value (.func 26), args := #[.tmp 126], argTypes := #[48] }, 9, "ref.go:250", #[⟨10, .data⟩, ⟨9, .chain⟩, ⟨9, .guard⟩], some (9, true)⟩) rfl (fun K hK => ?_) AllReadyH.nil
        go_simp
        (refine (HIns.out (World.drew W) (show RdS (World.drew W) _ A 1 encZ v5 from R5.out.rds) (show RdS (World.drew W) _ B 1 encZ v6 from R6.out.rds)).mono ?_; rintro e w5 ⟨rfl, hb5⟩; have U5 := Lib.hid ((below_drewN W 1).trans (hb5.mono (Nat.le_refl _))); have V5 := var_keep VR U5.out; have kp := Below.keep U5.out (fun _ => True); have d0 := kp _ _ trivial c0; have d1 := kp _ _ trivial c1_; have d2 := kp _ _ trivial c2_; have d3 := kp _ _ trivial c3_; have d4 := kp _ _ trivial c4_; have d5 := kp _ _ trivial c5_; have d6 := kp _ _ trivial c6_; clear kp hb5; have SS5 : (fun W' => W'.cell? ⟨Kx, 0, none⟩ = some (.int .i64 k) ∧ W'.cell? ⟨Kx, 1, none⟩ = some (.int .i64 v1) ∧ W'.cell? ⟨Kx, 2, none⟩ = some (.int .i64 v2) ∧ W'.cell? ⟨Kx, 3, none⟩ = some (.int .i64 v3) ∧ W'.cell? ⟨Kx, 4, none⟩ = some (.int .u64 (v4 : Int)) ∧ W'.cell? ⟨Kx, 5, none⟩ = some (.slice A v5.length c) ∧ W'.cell? ⟨Kx, 6, none⟩ = some (.slice B v6.length d)) w5 := ⟨d0, d1, d2, d3, d4, d5, d6⟩; dsimp only at SS5)
        (try dsimp only)
        refine hK.out _ _ ?_ (fun hHeld1 => ?_)
        · first | trivial | ((try dsimp only); first | assumption | trivial | go_keep)
        clear hK K hHeld0
        (try simp only [Act.put, List.setIfInBounds_toArray, List.set_cons_succ, List.set_cons_zero])
        refine tk (i := 14) (oi := ⟨some 130, .binOp .eql 9 (.tmp 127) (.tmp 129) 9, 4, "ref.go:250", #[⟨11, .data⟩, ⟨13, .data⟩, ⟨9, .guard⟩, { on := 16, ground := .gcOnly Go.Departure.lateStores }], some (9, true)⟩) rfl ?_; (try simp only [Act.put, List.setIfInBounds_toArray, List.set_cons_succ, List.set_cons_zero])
        refine tk (i := 15) (oi := ⟨some 131, .pick (.tmp 125) (.tmp 130) (.const (.bool false)), 4, "ref.go:250", #[⟨9, .data⟩, ⟨14, .data⟩, { on := 16, ground := .gcOnly Go.Departure.lateStores }], none⟩) rfl ?_; (try simp only [Act.put, List.setIfInBounds_toArray, List.set_cons_succ, List.set_cons_zero])
        refine wpAnyH_ready (rs := [16]) (by kernel_rfl) (by simp) ?_
        refine AllReadyH.cons (o := ⟨none, .store 48 (.tmp 2) (.tmp 116), 0, "ref.go:250", #[⟨0, .data⟩, ⟨11, .chain⟩, ⟨0, .phase⟩, { on := 1, ground := .textOnly Go.Departure.lateStores }, { on := 2, ground := .textOnly Go.Departure.lateStoresUnsure }, { on := 3, ground := .textOnly Go.Departure.lateStores }, { on := 4, ground := .textOnly Go.Departure.lateStores }, { on := 5, ground := .textOnly Go.Departure.lateStores }, { on := 6, ground := .textOnly Go.Departure.lateStores }, { on := 7, ground := .textOnly Go.Departure.lateStores }, { on := 8, ground := .textOnly Go.Departure.lateStores }, { on := 9, ground := .textOnly Go.Departure.lateStores }, { on := 10, ground := .textOnly Go.Departure.lateStores }, { on := 11, ground := .textOnly Go.Departure.lateStoresUnsure }, { on := 12, ground := .textOnly Go.Departure.lateStores }, { on := 13, ground := .textOnly Go.Departure.lateStores }, { on := 14, ground := .textOnly Go.Departure.lateStores }, { on := 15, ground := .textOnly Go.Departure.lateStores }], none⟩) rfl (fun K hK => ?_) AllReadyH.nil
        (rw [if_pos (by rfl)]; refine wp_store_row 48 (.tmp 2) (.tmp 116) rfl w.heap.size #[.int .i64 k, .int .i64 v1, .int .i64 v2, .int .i64 v3, .int .u64 (v4 : Int), .slice A v5.length c, .slice B v6.length d] rfl rfl 48 #[.int .i64 0, .int .i64 0, .int .i64 0, .int .i64 0, .int .u64 0, .slice none 0 0, .slice none 0 0] V5 info_sins rfl (by simp [Value.oneCell']) ?_; have gS := setRow_grown w5 w.heap.size #[.int .i64 k, .int .i64 v1, .int .i64 v2, .int .i64 v3, .int .u64 (v4 : Int), .slice A v5.length c, .slice B v6.length d]; have SS2 : (fun W' => W'.cell? ⟨Kx, 0, none⟩ = some (.int .i64 k) ∧ W'.cell? ⟨Kx, 1, none⟩ = some (.int .i64 v1) ∧ W'.cell? ⟨Kx, 2, none⟩ = some (.int .i64 v2) ∧ W'.cell? ⟨Kx, 3, none⟩ = some (.int .i64 v3) ∧ W'.cell? ⟨Kx, 4, none⟩ = some (.int .u64 (v4 : Int)) ∧ W'.cell? ⟨Kx, 5, none⟩ = some (.slice A v5.length c) ∧ W'.cell? ⟨Kx, 6, none⟩ = some (.slice B v6.length d)) (w5.setRow w.heap.size #[.int .i64 k, .int .i64 v1, .int .i64 v2, .int .i64 v3, .int .u64 (v4 : Int), .slice A v5.length c, .slice B v6.length d]) := ⟨gS.cell d0 (by simp; omega), gS.cell d1 (by simp; omega), gS.cell d2 (by simp; omega), gS.cell d3 (by simp; omega), gS.cell d4 (by simp; omega), gS.cell d5 (by simp; omega), gS.cell d6 (by simp; omega)⟩; dsimp only at SS2)
        (try dsimp only)
        refine hK.out _ _ ?_ (fun hHeld2 => ?_)
        · first | trivial | ((try dsimp only); first | assumption | trivial | go_keep)
        clear hK K hHeld1
        (try simp only [Act.put, List.setIfInBounds_toArray, List.set_cons_succ, List.set_cons_zero])
        refine tk (i := 17) (oi := ⟨some 3, .assign (.tmp 131), 4, "ref.go:250", #[⟨15, .data⟩, ⟨16, .chain⟩, ⟨0, .phase⟩, ⟨1, .phase⟩, ⟨2, .phase⟩, ⟨3, .phase⟩, ⟨4, .phase⟩, ⟨5, .phase⟩, ⟨6, .phase⟩, ⟨7, .phase⟩, ⟨8, .phase⟩, ⟨9, .phase⟩, ⟨10, .phase⟩, ⟨11, .phase⟩, ⟨12, .phase⟩, ⟨13, .phase⟩, ⟨14, .phase⟩, ⟨15, .phase⟩, ⟨16, .phase⟩], none⟩) rfl ?_; (try simp only [Act.put, List.setIfInBounds_toArray, List.set_cons_succ, List.set_cons_zero])
        refine wpAnyH_done (by kernel_rfl) ?_ _
        (try dsimp only)
        repeat (first | go_values | go_skip | go_guarded | go_step | go_upon)
        have fin := rinFin BEL.out U5.out R5.out R6.out #[.int .i64 k, .int .i64 v1, .int .i64 v2, .int .i64 v3, .int .u64 (v4 : Int), .slice A v5.length c, .slice B v6.length d]
        refine bodyPost_ret (results_cell_row_tmp rfl _ _ w.heap.size _ #[.int .i64 k, .int .i64 v1, .int .i64 v2, .int .i64 v3, .int .u64 (v4 : Int), .slice A v5.length c, .slice B v6.length d] (0, 0) _ rfl (setRow_heap w5 w.heap.size #[.int .i64 0, .int .i64 0, .int .i64 0, .int .i64 0, .int .u64 0, .slice none 0 0, .slice none 0 0] _ _ (0, 0) V5) Tryz.underlying48 rfl (by kernel_rfl)) rfl ?_
        obtain rfl := HR.out
        exact ⟨⟨A, c, B, d, rfl, fin.2.1, fin.2.2⟩, fin.1⟩
  · have x0 : ¬ ((l6.length : Int) + 1 = 0) := by omega
    have y0 : (((l6.length : Int) + 1) == 0) = false := by rw [beq_eq_false_iff_ne]; exact x0
    have HR : Hid (R = ((⟨k, v1, v2, v3, v4, v5, v6⟩ : St.Ins), false)) := Lib.hid (by rw [HR.out]; rfl)
    have SS : (fun W' => W'.cell? ⟨Kx, 0, none⟩ = some (.int .i64 k) ∧ W'.cell? ⟨Kx, 1, none⟩ = some (.int .i64 v1) ∧ W'.cell? ⟨Kx, 2, none⟩ = some (.int .i64 v2) ∧ W'.cell? ⟨Kx, 3, none⟩ = some (.int .i64 v3) ∧ W'.cell? ⟨Kx, 4, none⟩ = some (.int .u64 (v4 : Int)) ∧ W'.cell? ⟨Kx, 5, none⟩ = some (.slice A v5.length c) ∧ W'.cell? ⟨Kx, 6, none⟩ = some (.slice B v6.length d)) (World.drew W) := ⟨c0, c1_, c2_, c3_, c4_, c5_, c6_⟩
    dsimp only at SS
    have SSc := SS
    obtain ⟨t0, t1, t2, t3, t4, t5, t6⟩ := SSc
    have VD : (World.drew W).heap[w.heap.size]? = some (.cells #[.int .i64 0, .int .i64 0, .int .i64 0, .int .i64 0, .int .u64 0, .slice none 0 0, .slice none 0 0] 48 (0, 0)) := VR
    refine wp_region_held_drew (S := (fun W' => W'.cell? ⟨Kx, 0, none⟩ = some (.int .i64 k) ∧ W'.cell? ⟨Kx, 1, none⟩ = some (.int .i64 v1) ∧ W'.cell? ⟨Kx, 2, none⟩ = some (.int .i64 v2) ∧ W'.cell? ⟨Kx, 3, none⟩ = some (.int .i64 v3) ∧ W'.cell? ⟨Kx, 4, none⟩ = some (.int .u64 (v4 : Int)) ∧ W'.cell? ⟨Kx, 5, none⟩ = some (.slice A v5.length c) ∧ W'.cell? ⟨Kx, 6, none⟩ = some (.slice B v6.length d))) (by kernel_rfl) ?_ (fun hHeld0 => ?_)
    · first | assumption | go_keep
    refine tk (i := 0) (oi := ⟨some 116, .load 48 (.tmp 5), 48, "ref.go:250", #[], none⟩) rfl ?_; (try simp only [Act.put, List.setIfInBounds_toArray, List.set_cons_succ, List.set_cons_zero])
    refine tk (i := 1) (oi := ⟨some 117, .move (.tmp 4), 54, "ref.go:250", #[], none⟩) rfl ?_; (try simp only [Act.put, List.setIfInBounds_toArray, List.set_cons_succ, List.set_cons_zero])
    refine tk (i := 2) (oi := ⟨some 118, .call { callee := .builtin .len, args := #[.tmp 117], argTypes := #[54] }, 3, "ref.go:250", #[⟨1, .data⟩], none⟩) rfl ?_; (try simp only [Act.put, List.setIfInBounds_toArray, List.set_cons_succ, List.set_cons_zero])
    refine tk (i := 3) (oi := ⟨some 119, .binOp .eql 3 (.tmp 118) (.const (.int .i64 0)) 3, 4, "ref.go:250", #[⟨2, .data⟩], none⟩) rfl ?_; (try simp only [Act.put, List.setIfInBounds_toArray, List.set_cons_succ, List.set_cons_zero])
    refine tk (i := 4) (oi := ⟨some 120, .move (.tmp 119), 4, "ref.go:250", #[⟨3, .data⟩], none⟩) rfl ?_; (try simp only [Act.put, List.setIfInBounds_toArray, List.set_cons_succ, List.set_cons_zero])
    refine tkN (i := 5) (oi := ⟨some 121, .fieldAddr 48 (.tmp 5) 0, 0, "ref.go:250", #[⟨4, .guard⟩], some (4, true)⟩) rfl ?_; (try simp only [Act.put, List.setIfInBounds_toArray, List.set_cons_succ, List.set_cons_zero])
    refine tkN (i := 6) (oi := ⟨some 122, .load 3 (.tmp 121), 3, "ref.go:250", #[⟨5, .data⟩, ⟨4, .guard⟩], some (4, true)⟩) rfl ?_; (try simp only [Act.put, List.setIfInBounds_toArray, List.set_cons_succ, List.set_cons_zero])
    refine tkN (i := 7) (oi := ⟨some 123, .binOp .geq 3 (.tmp 122) (.const (.int .i64 0)) 3, 4, "ref.go:250", #[⟨6, .data⟩, ⟨4, .guard⟩], some (4, true)⟩) rfl ?_; (try simp only [Act.put, List.setIfInBounds_toArray, List.set_cons_succ, List.set_cons_zero])
    refine tk (i := 8) (oi := ⟨some 124, .pick (.tmp 120) (.tmp 123) (.const (.bool false)), 4, "ref.go:250", #[⟨4, .data⟩, ⟨7, .data⟩], none⟩) rfl ?_; (try simp only [Act.put, List.setIfInBounds_toArray, List.set_cons_succ, List.set_cons_zero])
    refine tk (i := 9) (oi := ⟨some 125, .move (.tmp 124), 4, "ref.go:250", #[⟨8, .data⟩, ⟨4, .chain⟩], none⟩) rfl ?_; (try simp only [Act.put, List.setIfInBounds_toArray, List.set_cons_succ, List.set_cons_zero])
    refine tkN (i := 10) (oi := ⟨some 126, .load 48 (.tmp 5), 48, "ref.go:250", #[⟨9, .guard⟩], some (9, true)⟩) rfl ?_; (try simp only [Act.put, List.setIfInBounds_toArray, List.set_cons_succ, List.set_cons_zero])
    refine tkN (i := 11) (oi := ⟨some 127, .call { callee := .value (.func 26), args := #[.tmp 126], argTypes := #[48] }, 9, "ref.go:250", #[⟨10, .data⟩, ⟨9, .chain⟩, ⟨9, .guard⟩], some (9, true)⟩) rfl ?_; (try simp only [Act.put, List.setIfInBounds_toArray, List.set_cons_succ, List.set_cons_zero])
    refine tkN (i := 12) (oi := ⟨some 128, .move (.tmp 0), 9, "ref.go:250", #[⟨9, .guard⟩, { on := 16, ground := .gcOnly Go.Departure.lateStores }], some (9, true)⟩) rfl ?_; (try simp only [Act.put, List.setIfInBounds_toArray, List.set_cons_succ, List.set_cons_zero])
    refine tkN (i := 13) (oi := ⟨some 129, .binOp .add 9 (.tmp 128) (.const (.string { data := #[10] })) 9, 9, "ref.go:250", #[⟨12, .data⟩, ⟨9, .guard⟩, { on := 16, ground := .gcOnly Go.Departure.lateStores }], some (9, true)⟩) rfl ?_; (try simp only [Act.put, List.setIfInBounds_toArray, List.set_cons_succ, List.set_cons_zero])
    refine tkN (i := 14) (oi := ⟨some 130, .binOp .eql 9 (.tmp 127) (.tmp 129) 9, 4, "ref.go:250", #[⟨11, .data⟩, ⟨13, .data⟩, ⟨9, .guard⟩, { on := 16, ground := .gcOnly Go.Departure.lateStores }], some (9, true)⟩) rfl ?_; (try simp only [Act.put, List.setIfInBounds_toArray, List.set_cons_succ, List.set_cons_zero])
    refine tk (i := 15) (oi := ⟨some 131, .pick (.tmp 125) (.tmp 130) (.const (.bool false)), 4, "ref.go:250", #[⟨9, .data⟩, ⟨14, .data⟩, { on := 16, ground := .gcOnly Go.Departure.lateStores }], none⟩) rfl ?_; (try simp only [Act.put, List.setIfInBounds_toArray, List.set_cons_succ, List.set_cons_zero])
    refine wpAnyH_ready (rs := [16]) (by kernel_rfl) (by simp) ?_
    refine AllReadyH.cons (o := ⟨none, .store 48 (.tmp 2) (.tmp 116), 0, "ref.go:250", #[⟨0, .data⟩, ⟨11, .chain⟩, ⟨0, .phase⟩, { on := 1, ground := .textOnly Go.Departure.lateStores }, { on := 2, ground := .textOnly Go.Departure.lateStoresUnsure }, { on := 3, ground := .textOnly Go.Departure.lateStores }, { on := 4, ground := .textOnly Go.Departure.lateStores }, { on := 5, ground := .textOnly Go.Departure.lateStores }, { on := 6, ground := .textOnly Go.Departure.lateStores }, { on := 7, ground := .textOnly Go.Departure.lateStores }, { on := 8, ground := .textOnly Go.Departure.lateStores }, { on := 9, ground := .textOnly Go.Departure.lateStores }, { on := 10, ground := .textOnly Go.Departure.lateStores }, { on := 11, ground := .textOnly Go.Departure.lateStoresUnsure }, { on := 12, ground := .textOnly Go.Departure.lateStores }, { on := 13, ground := .textOnly Go.Departure.lateStores }, { on := 14, ground := .textOnly Go.Departure.lateStores }, { on := 15, ground := .textOnly Go.Departure.lateStores }], none⟩) rfl (fun K hK => ?_) AllReadyH.nil
    (rw [if_pos (by rfl)]; refine wp_store_row 48 (.tmp 2) (.tmp 116) rfl w.heap.size #[.int .i64 k, .int .i64 v1, .int .i64 v2, .int .i64 v3, .int .u64 (v4 : Int), .slice A v5.length c, .slice B v6.length d] rfl rfl 48 #[.int .i64 0, .int .i64 0, .int .i64 0, .int .i64 0, .int .u64 0, .slice none 0 0, .slice none 0 0] VD info_sins rfl (by simp [Value.oneCell']) ?_; have gS := setRow_grown (World.drew W) w.heap.size #[.int .i64 k, .int .i64 v1, .int .i64 v2, .int .i64 v3, .int .u64 (v4 : Int), .slice A v5.length c, .slice B v6.length d]; have SS2 : (fun W' => W'.cell? ⟨Kx, 0, none⟩ = some (.int .i64 k) ∧ W'.cell? ⟨Kx, 1, none⟩ = some (.int .i64 v1) ∧ W'.cell? ⟨Kx, 2, none⟩ = some (.int .i64 v2) ∧ W'.cell? ⟨Kx, 3, none⟩ = some (.int .i64 v3) ∧ W'.cell? ⟨Kx, 4, none⟩ = some (.int .u64 (v4 : Int)) ∧ W'.cell? ⟨Kx, 5, none⟩ = some (.slice A v5.length c) ∧ W'.cell? ⟨Kx, 6, none⟩ = some (.slice B v6.length d)) ((World.drew W).setRow w.heap.size #[.int .i64 k, .int .i64 v1, .int .i64 v2, .int .i64 v3, .int .u64 (v4 : Int), .slice A v5.length c, .slice B v6.length d]) := ⟨gS.cell t0 (by simp; omega), gS.cell t1 (by simp; omega), gS.cell t2 (by simp; omega), gS.cell t3 (by simp; omega), gS.cell t4 (by simp; omega), gS.cell t5 (by simp; omega), gS.cell t6 (by simp; omega)⟩; dsimp only at SS2)
    (try dsimp only)
    refine hK.out _ _ ?_ (fun hHeld1 => ?_)
    · first | trivial | ((try dsimp only); first | assumption | trivial | go_keep)
    clear hK K hHeld0
    (try simp only [Act.put, List.setIfInBounds_toArray, List.set_cons_succ, List.set_cons_zero])
    refine tk (i := 17) (oi := ⟨some 3, .assign (.tmp 131), 4, "ref.go:250", #[⟨15, .data⟩, ⟨16, .chain⟩, ⟨0, .phase⟩, ⟨1, .phase⟩, ⟨2, .phase⟩, ⟨3, .phase⟩, ⟨4, .phase⟩, ⟨5, .phase⟩, ⟨6, .phase⟩, ⟨7, .phase⟩, ⟨8, .phase⟩, ⟨9, .phase⟩, ⟨10, .phase⟩, ⟨11, .phase⟩, ⟨12, .phase⟩, ⟨13, .phase⟩, ⟨14, .phase⟩, ⟨15, .phase⟩, ⟨16, .phase⟩], none⟩) rfl ?_; (try simp only [Act.put, List.setIfInBounds_toArray, List.set_cons_succ, List.set_cons_zero])
    refine wpAnyH_done (by kernel_rfl) ?_ _
    (try dsimp only)
    repeat (first | go_values | go_skip | go_guarded | go_step | go_upon)
    have fin := rinFin BEL.out (below_drewN W 1) R5.out R6.out #[.int .i64 k, .int .i64 v1, .int .i64 v2, .int .i64 v3, .int .u64 (v4 : Int), .slice A v5.length c, .slice B v6.length d]
    refine bodyPost_ret (results_cell_row_tmp rfl _ _ w.heap.size _ #[.int .i64 k, .int .i64 v1, .int .i64 v2, .int .i64 v3, .int .u64 (v4 : Int), .slice A v5.length c, .slice B v6.length d] (0, 0) _ rfl (setRow_heap (World.drew W) w.heap.size #[.int .i64 0, .int .i64 0, .int .i64 0, .int .i64 0, .int .u64 0, .slice none 0 0, .slice none 0 0] _ _ (0, 0) VR) Tryz.underlying48 rfl (by kernel_rfl)) rfl ?_
    obtain rfl := HR.out
    exact ⟨⟨A, c, B, d, rfl, fin.2.1, fin.2.2⟩, fin.1⟩
end Go.Proofs.YtmhmpobjjhbklaaGreatDoor
