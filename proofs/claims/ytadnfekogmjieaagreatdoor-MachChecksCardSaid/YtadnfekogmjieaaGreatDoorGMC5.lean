/-
  Layer 51, the program: bulk, tab, typ, access. (Printed by gen_mc5.py.)
-/
import Derived.Test.YtadnfekogmjieaaGreatDoorGMC4
set_option linter.unusedVariables false
set_option linter.unusedSimpArgs false
namespace Go.Proofs.YtadnfekogmjieaaGreatDoor
open Go.RowKit
open Mc (Pl Mi Mf Th Wt)
structure Mc.Th.Few (t : Th) : Prop where
  ty : t.types.length ≤ 1000000
  fn : t.funcs.length ≤ 1000000
  tb : t.tables.length ≤ 1000000
  mm : t.mems ≤ 1000000
  gl : t.globals.length ≤ 1000000
  el : t.elems ≤ 1000000
  da : t.datas ≤ 1000000
  pl : ∀ f ∈ t.types, f.1.length ≤ 17592186044416 ∧ f.2.length ≤ 17592186044416
theorem wrap_pred {n : Nat} (h : n ≤ 1000000) : IntKind.i64.wrap ((n : Int) - 1) = (n : Int) - 1 := by rw [IntKind.wrap_i64]; omega
theorem thA_cells {W : World} {K : Nat} {T : TypeId} {t : Th} {x : TX} (h : Var W K (thA t x) T) :
    (W.cell? ⟨K, 0, none⟩ = some (.slice x.TA t.types.length x.tc) ∧ W.cell? ⟨K, 1, none⟩ = some x.v1 ∧ W.cell? ⟨K, 2, none⟩ = some x.v2 ∧ W.cell? ⟨K, 3, none⟩ = some x.v3 ∧ W.cell? ⟨K, 4, none⟩ = some x.v4 ∧ W.cell? ⟨K, 5, none⟩ = some x.v5 ∧ W.cell? ⟨K, 6, none⟩ = some x.v6 ∧ W.cell? ⟨K, 7, none⟩ = some x.v7) ∧
    (W.cell? ⟨K, 8, none⟩ = some x.v8 ∧ W.cell? ⟨K, 9, none⟩ = some (.slice x.EA t.elems x.ec) ∧ W.cell? ⟨K, 10, none⟩ = some (.slice x.DA t.datas x.dc) ∧ W.cell? ⟨K, 11, none⟩ = some x.v11 ∧ W.cell? ⟨K, 12, none⟩ = some (.slice x.FA t.funcs.length x.fc) ∧ W.cell? ⟨K, 13, none⟩ = some (.slice x.BA t.tables.length x.bc) ∧ W.cell? ⟨K, 14, none⟩ = some (.int .i64 (t.mems : Int)) ∧ W.cell? ⟨K, 15, none⟩ = some (.slice x.GA t.globals.length x.gc)) := cells16 h
theorem miV_cells {W : World} {K : Nat} {T : TypeId} {x : Mi} {D : Option Addr} {c1 : Nat} {E : Option Addr} {c2 : Nat} {A : Option Addr} {c3 : Nat} (h : Var W K (miV x D c1 E c2 A c3) T) :
    W.cell? ⟨K, 0, none⟩ = some (.int .i64 x.kind) ∧ W.cell? ⟨K, 1, none⟩ = some (.int .i64 x.op) ∧ W.cell? ⟨K, 2, none⟩ = some (.int .i64 x.a) ∧ W.cell? ⟨K, 3, none⟩ = some (.int .i64 x.b) ∧ W.cell? ⟨K, 4, none⟩ = some (.int .u64 (x.n : Int)) ∧
    W.cell? ⟨K, 5, none⟩ = some (.slice D x.d.length c1) ∧ W.cell? ⟨K, 6, none⟩ = some (.slice E x.s.length c2) ∧ W.cell? ⟨K, 7, none⟩ = some (.slice A x.tos.length c3) ∧ W.cell? ⟨K, 8, none⟩ = some (.int .i64 x.trap) := cells9 h
def wt0V : Array Value := #[.int .i64 0, .int .i64 0, .int .i64 0, .bool false, .bool false]
structure B3 (w W : World) (tv mv : Array Value) : Prop where
  bel : Below w.heap.size w W
  th : Var W w.heap.size tv 97
  mi : Var W (w.heap.size + 1) mv 61
  rs : Var W (w.heap.size + 2) wt0V 130
theorem B3.new (w : World) (tv mv : Array Value) : B3 w (((w.alloc (.cells tv 97)).alloc (.cells mv 61)).alloc (.cells wt0V 130)) tv mv :=
  ⟨((((Below.refl w.heap.size w).alloc (Nat.le_refl _) _).alloc (by simp) _).alloc (by simp; omega) _), ((Var.new w _ _).alloc _).alloc _, by have h := (Var.new (w.alloc (.cells tv 97)) mv 61).alloc (.cells wt0V 130); simpa using h, by have h := Var.new ((w.alloc (.cells tv 97)).alloc (.cells mv 61)) wt0V 130; simpa using h⟩
theorem B3.below {w W W' : World} {tv mv : Array Value} (h : B3 w W tv mv) (hb : Below W.heap.size W W') : B3 w W' tv mv := ⟨h.bel.trans (hb.mono h.bel.size), var_keep h.th hb, var_keep h.mi hb, var_keep h.rs hb⟩
set_option maxHeartbeats 4000000 in
set_option maxRecDepth 100000 in
theorem mbulk_any (t : Th) (hf : t.Few) (X : TX) (x : Mi) (D : Option Addr) (c1 : Nat) (E : Option Addr) (c2 : Nat) (T : Option Addr) (c3 : Nat) (w : World) :
    Calls Tryz.prog 145 #[.agg (thA t X), .agg (miV x D c1 E c2 T c3)] w fun e w' => e = .returned (.agg (wtV (Mc.bulkW t x))) ∧ Below w.heap.size w w' := by
  obtain ⟨R, hR⟩ : ∃ R, Mc.bulkW t x = R := ⟨_, rfl⟩
  rw [hR]
  unfold Mc.bulkW at hR
  have hfe := hf
  have wm := wrap_pred hf.mm
  have we := wrap_pred hf.el
  have wd := wrap_pred hf.da
  have wt := wrap_pred hf.tb
  have wf := wrap_pred hf.fn
  have wg := wrap_pred hf.gl
  have wy := wrap_pred hf.ty
  have S0 := Lib.hid (B3.new w (thA t X) (miV x D c1 E c2 T c3))
  unfold wt0V at S0
  go_enter Tryz.func145, Tryz.ntmps145
  go_upto_region 1 with fail
  refine at_code (F := fun W => Hid (B3 w W (thA t X) (miV x D c1 E c2 T c3))) (Lib.hid S0.out) ?_
  clear S0
  intro W S
  obtain ⟨⟨g0, g1, g2, g3, g4, g5, g6, g7⟩, g8, g9, g10, g11, g12, g13, g14, g15⟩ := thA_cells S.out.th
  obtain ⟨m0, m1, m2, m3, m4, m5, m6, m7, m8⟩ := miV_cells S.out.mi
  obtain ⟨⟨r0, r1, r2, r3, r4⟩, z0, z1, z2, z3, z4⟩ := cells5 S.out.rs
  have hlt := S.out.rs.lt
  unfold Mc.inL at hR
  rcases hm : Mc.within x.b ((t.mems : Int) - 1) with _ | _
  all_goals rw [hm] at hR
  · skip
    by_cases h64523 : x.op = 64523
    · rw [if_pos h64523] at hR
      rw [h64523] at m1
      go_wp2_with (go_at_call 24; refine (within_any _ _ _).mono ?_; rintro e w1 ⟨rfl, rfl⟩)
      refine bodyPost_ret (results_cell_row rfl _ _ (w.heap.size + 2) _ _ (0, 0) _ rfl (put5 S.out.rs _ _ _ _ _).1 Tryz.underlying130 rfl (by kernel_rfl)) rfl ?_
      exact ⟨by rw [← hR]; rfl, below_grown S.out.bel (put5 S.out.rs _ _ _ _ _).2 S.out.bel.size (by omega)⟩
    rw [if_neg h64523] at hR
    have b64523 : (x.op == 64523) = false := by rw [beq_eq_false_iff_ne]; exact h64523
    by_cases h64522 : x.op = 64522
    · rw [if_pos h64522] at hR
      rw [h64522] at m1
      go_wp2_with (go_at_call 24; refine (within_any _ _ _).mono ?_; rintro e w1 ⟨rfl, rfl⟩)
      refine bodyPost_ret (results_cell_row rfl _ _ (w.heap.size + 2) _ _ (0, 0) _ rfl (put5 S.out.rs _ _ _ _ _).1 Tryz.underlying130 rfl (by kernel_rfl)) rfl ?_
      exact ⟨by rw [← hR]; rfl, below_grown S.out.bel (put5 S.out.rs _ _ _ _ _).2 S.out.bel.size (by omega)⟩
    rw [if_neg h64522] at hR
    have b64522 : (x.op == 64522) = false := by rw [beq_eq_false_iff_ne]; exact h64522
    by_cases h64520 : x.op = 64520
    · rw [if_pos h64520] at hR
      rw [h64520] at m1
      go_wp2_with (go_at_call 24; refine (within_any _ _ _).mono ?_; rintro e w1 ⟨rfl, rfl⟩)
      refine bodyPost_ret (results_cell_row rfl _ _ (w.heap.size + 2) _ _ (0, 0) _ rfl (put5 S.out.rs _ _ _ _ _).1 Tryz.underlying130 rfl (by kernel_rfl)) rfl ?_
      exact ⟨by rw [← hR]; rfl, below_grown S.out.bel (put5 S.out.rs _ _ _ _ _).2 S.out.bel.size (by omega)⟩
    rw [if_neg h64520] at hR
    have b64520 : (x.op == 64520) = false := by rw [beq_eq_false_iff_ne]; exact h64520
    by_cases h64521 : x.op = 64521
    · rw [if_pos h64521] at hR
      rw [h64521] at m1
      rcases hq : Mc.within x.a ((t.datas : Int) - 1) with _ | _
      all_goals
        rw [hq] at hR
        go_wp2_with (go_at_call 24; refine (within_any _ _ _).mono ?_; rintro e w1 ⟨rfl, rfl⟩)
        refine bodyPost_ret (results_cell_row rfl _ _ (w.heap.size + 2) _ _ (0, 0) _ rfl (put5 S.out.rs _ _ _ _ _).1 Tryz.underlying130 rfl (by kernel_rfl)) rfl ?_
        exact ⟨by rw [← hR]; rfl, below_grown S.out.bel (put5 S.out.rs _ _ _ _ _).2 S.out.bel.size (by omega)⟩
    rw [if_neg h64521] at hR
    have b64521 : (x.op == 64521) = false := by rw [beq_eq_false_iff_ne]; exact h64521
    clear h64523 h64522 h64520 h64521
    go_wp2_with (go_at_call 24; refine (within_any _ _ _).mono ?_; rintro e w1 ⟨rfl, rfl⟩)
    refine bodyPost_ret (results_cell_row rfl _ _ (w.heap.size + 2) _ _ (0, 0) _ rfl (put5 S.out.rs _ _ _ _ _).1 Tryz.underlying130 rfl (by kernel_rfl)) rfl ?_
    exact ⟨by rw [← hR]; rfl, below_grown S.out.bel (put5 S.out.rs _ _ _ _ _).2 S.out.bel.size (by omega)⟩
  · skip
    by_cases h64523 : x.op = 64523
    · rw [if_pos h64523] at hR
      rw [h64523] at m1
      go_wp2_with (go_at_call 24; refine (within_any _ _ _).mono ?_; rintro e w1 ⟨rfl, rfl⟩)
      refine bodyPost_ret (results_cell_row rfl _ _ (w.heap.size + 2) _ _ (0, 0) _ rfl (put5 S.out.rs _ _ _ _ _).1 Tryz.underlying130 rfl (by kernel_rfl)) rfl ?_
      exact ⟨by rw [← hR]; rfl, below_grown S.out.bel (put5 S.out.rs _ _ _ _ _).2 S.out.bel.size (by omega)⟩
    rw [if_neg h64523] at hR
    have b64523 : (x.op == 64523) = false := by rw [beq_eq_false_iff_ne]; exact h64523
    by_cases h64522 : x.op = 64522
    · rw [if_pos h64522] at hR
      rw [h64522] at m1
      go_wp2_with (go_at_call 24; refine (within_any _ _ _).mono ?_; rintro e w1 ⟨rfl, rfl⟩)
      refine bodyPost_ret (results_cell_row rfl _ _ (w.heap.size + 2) _ _ (0, 0) _ rfl (put5 S.out.rs _ _ _ _ _).1 Tryz.underlying130 rfl (by kernel_rfl)) rfl ?_
      exact ⟨by rw [← hR]; rfl, below_grown S.out.bel (put5 S.out.rs _ _ _ _ _).2 S.out.bel.size (by omega)⟩
    rw [if_neg h64522] at hR
    have b64522 : (x.op == 64522) = false := by rw [beq_eq_false_iff_ne]; exact h64522
    by_cases h64520 : x.op = 64520
    · rw [if_pos h64520] at hR
      rw [h64520] at m1
      go_wp2_with (go_at_call 24; refine (within_any _ _ _).mono ?_; rintro e w1 ⟨rfl, rfl⟩)
      refine bodyPost_ret (results_cell_row rfl _ _ (w.heap.size + 2) _ _ (0, 0) _ rfl (put5 S.out.rs _ _ _ _ _).1 Tryz.underlying130 rfl (by kernel_rfl)) rfl ?_
      exact ⟨by rw [← hR]; rfl, below_grown S.out.bel (put5 S.out.rs _ _ _ _ _).2 S.out.bel.size (by omega)⟩
    rw [if_neg h64520] at hR
    have b64520 : (x.op == 64520) = false := by rw [beq_eq_false_iff_ne]; exact h64520
    by_cases h64521 : x.op = 64521
    · rw [if_pos h64521] at hR
      rw [h64521] at m1
      rcases hq : Mc.within x.a ((t.datas : Int) - 1) with _ | _
      all_goals
        rw [hq] at hR
        go_wp2_with (go_at_call 24; refine (within_any _ _ _).mono ?_; rintro e w1 ⟨rfl, rfl⟩)
        refine bodyPost_ret (results_cell_row rfl _ _ (w.heap.size + 2) _ _ (0, 0) _ rfl (put5 S.out.rs _ _ _ _ _).1 Tryz.underlying130 rfl (by kernel_rfl)) rfl ?_
        exact ⟨by rw [← hR]; rfl, below_grown S.out.bel (put5 S.out.rs _ _ _ _ _).2 S.out.bel.size (by omega)⟩
    rw [if_neg h64521] at hR
    have b64521 : (x.op == 64521) = false := by rw [beq_eq_false_iff_ne]; exact h64521
    clear h64523 h64522 h64520 h64521
    go_wp2_with (go_at_call 24; refine (within_any _ _ _).mono ?_; rintro e w1 ⟨rfl, rfl⟩)
    refine bodyPost_ret (results_cell_row rfl _ _ (w.heap.size + 2) _ _ (0, 0) _ rfl (put5 S.out.rs _ _ _ _ _).1 Tryz.underlying130 rfl (by kernel_rfl)) rfl ?_
    exact ⟨by rw [← hR]; rfl, below_grown S.out.bel (put5 S.out.rs _ _ _ _ _).2 S.out.bel.size (by omega)⟩
set_option maxHeartbeats 4000000 in
set_option maxRecDepth 100000 in
theorem mtab_any (t : Th) (hf : t.Few) (X : TX) (x : Mi) (D : Option Addr) (c1 : Nat) (E : Option Addr) (c2 : Nat) (T : Option Addr) (c3 : Nat) (w : World) :
    Calls Tryz.prog 146 #[.agg (thA t X), .agg (miV x D c1 E c2 T c3)] w fun e w' => e = .returned (.agg (wtV (Mc.tabW t x))) ∧ Below w.heap.size w w' := by
  obtain ⟨R, hR⟩ : ∃ R, Mc.tabW t x = R := ⟨_, rfl⟩
  rw [hR]
  unfold Mc.tabW at hR
  have hfe := hf
  have wm := wrap_pred hf.mm
  have we := wrap_pred hf.el
  have wd := wrap_pred hf.da
  have wt := wrap_pred hf.tb
  have wf := wrap_pred hf.fn
  have wg := wrap_pred hf.gl
  have wy := wrap_pred hf.ty
  have S0 := Lib.hid (B3.new w (thA t X) (miV x D c1 E c2 T c3))
  unfold wt0V at S0
  go_enter Tryz.func146, Tryz.ntmps146
  go_upto_region 1 with fail
  refine at_code (F := fun W => Hid (B3 w W (thA t X) (miV x D c1 E c2 T c3))) (Lib.hid S0.out) ?_
  clear S0
  intro W S
  obtain ⟨⟨g0, g1, g2, g3, g4, g5, g6, g7⟩, g8, g9, g10, g11, g12, g13, g14, g15⟩ := thA_cells S.out.th
  obtain ⟨m0, m1, m2, m3, m4, m5, m6, m7, m8⟩ := miV_cells S.out.mi
  obtain ⟨⟨r0, r1, r2, r3, r4⟩, z0, z1, z2, z3, z4⟩ := cells5 S.out.rs
  have hlt := S.out.rs.lt
  unfold Mc.oneT Mc.inL at hR
  rcases hm : Mc.within x.a ((t.tables.length : Int) - 1) with _ | _
  all_goals rw [hm] at hR
  · skip
    by_cases h37 : x.op = 37
    · rw [if_pos h37] at hR
      rw [h37] at m1
      go_wp2_with (go_at_call 24; refine (within_any _ _ _).mono ?_; rintro e w1 ⟨rfl, rfl⟩)
      refine bodyPost_ret (results_cell_row rfl _ _ (w.heap.size + 2) _ _ (0, 0) _ rfl (put5 S.out.rs _ _ _ _ _).1 Tryz.underlying130 rfl (by kernel_rfl)) rfl ?_
      exact ⟨by rw [← hR]; rfl, below_grown S.out.bel (put5 S.out.rs _ _ _ _ _).2 S.out.bel.size (by omega)⟩
    rw [if_neg h37] at hR
    have b37 : (x.op == 37) = false := by rw [beq_eq_false_iff_ne]; exact h37
    by_cases h38 : x.op = 38
    · rw [if_pos h38] at hR
      rw [h38] at m1
      go_wp2_with (go_at_call 24; refine (within_any _ _ _).mono ?_; rintro e w1 ⟨rfl, rfl⟩)
      refine bodyPost_ret (results_cell_row rfl _ _ (w.heap.size + 2) _ _ (0, 0) _ rfl (put5 S.out.rs _ _ _ _ _).1 Tryz.underlying130 rfl (by kernel_rfl)) rfl ?_
      exact ⟨by rw [← hR]; rfl, below_grown S.out.bel (put5 S.out.rs _ _ _ _ _).2 S.out.bel.size (by omega)⟩
    rw [if_neg h38] at hR
    have b38 : (x.op == 38) = false := by rw [beq_eq_false_iff_ne]; exact h38
    by_cases h64528 : x.op = 64528
    · rw [if_pos h64528] at hR
      rw [h64528] at m1
      go_wp2_with (go_at_call 24; refine (within_any _ _ _).mono ?_; rintro e w1 ⟨rfl, rfl⟩)
      refine bodyPost_ret (results_cell_row rfl _ _ (w.heap.size + 2) _ _ (0, 0) _ rfl (put5 S.out.rs _ _ _ _ _).1 Tryz.underlying130 rfl (by kernel_rfl)) rfl ?_
      exact ⟨by rw [← hR]; rfl, below_grown S.out.bel (put5 S.out.rs _ _ _ _ _).2 S.out.bel.size (by omega)⟩
    rw [if_neg h64528] at hR
    have b64528 : (x.op == 64528) = false := by rw [beq_eq_false_iff_ne]; exact h64528
    by_cases h64527 : x.op = 64527
    · rw [if_pos h64527] at hR
      rw [h64527] at m1
      go_wp2_with (go_at_call 24; refine (within_any _ _ _).mono ?_; rintro e w1 ⟨rfl, rfl⟩)
      refine bodyPost_ret (results_cell_row rfl _ _ (w.heap.size + 2) _ _ (0, 0) _ rfl (put5 S.out.rs _ _ _ _ _).1 Tryz.underlying130 rfl (by kernel_rfl)) rfl ?_
      exact ⟨by rw [← hR]; rfl, below_grown S.out.bel (put5 S.out.rs _ _ _ _ _).2 S.out.bel.size (by omega)⟩
    rw [if_neg h64527] at hR
    have b64527 : (x.op == 64527) = false := by rw [beq_eq_false_iff_ne]; exact h64527
    by_cases h64529 : x.op = 64529
    · rw [if_pos h64529] at hR
      rw [h64529] at m1
      go_wp2_with (go_at_call 24; refine (within_any _ _ _).mono ?_; rintro e w1 ⟨rfl, rfl⟩)
      refine bodyPost_ret (results_cell_row rfl _ _ (w.heap.size + 2) _ _ (0, 0) _ rfl (put5 S.out.rs _ _ _ _ _).1 Tryz.underlying130 rfl (by kernel_rfl)) rfl ?_
      exact ⟨by rw [← hR]; rfl, below_grown S.out.bel (put5 S.out.rs _ _ _ _ _).2 S.out.bel.size (by omega)⟩
    rw [if_neg h64529] at hR
    have b64529 : (x.op == 64529) = false := by rw [beq_eq_false_iff_ne]; exact h64529
    by_cases h64526 : x.op = 64526
    · rw [if_pos h64526] at hR
      rw [h64526] at m1
      go_wp2_with (go_at_call 24; refine (within_any _ _ _).mono ?_; rintro e w1 ⟨rfl, rfl⟩)
      refine bodyPost_ret (results_cell_row rfl _ _ (w.heap.size + 2) _ _ (0, 0) _ rfl (put5 S.out.rs _ _ _ _ _).1 Tryz.underlying130 rfl (by kernel_rfl)) rfl ?_
      exact ⟨by rw [← hR]; rfl, below_grown S.out.bel (put5 S.out.rs _ _ _ _ _).2 S.out.bel.size (by omega)⟩
    rw [if_neg h64526] at hR
    have b64526 : (x.op == 64526) = false := by rw [beq_eq_false_iff_ne]; exact h64526
    by_cases h64524 : x.op = 64524
    · rw [if_pos h64524] at hR
      rw [h64524] at m1
      rcases hq : Mc.within x.a ((t.elems : Int) - 1) with _ | _
      all_goals
        rw [hq] at hR
        go_wp2_with (go_at_call 24; refine (within_any _ _ _).mono ?_; rintro e w1 ⟨rfl, rfl⟩)
        refine bodyPost_ret (results_cell_row rfl _ _ (w.heap.size + 2) _ _ (0, 0) _ rfl (put5 S.out.rs _ _ _ _ _).1 Tryz.underlying130 rfl (by kernel_rfl)) rfl ?_
        exact ⟨by rw [← hR]; rfl, below_grown S.out.bel (put5 S.out.rs _ _ _ _ _).2 S.out.bel.size (by omega)⟩
    rw [if_neg h64524] at hR
    have b64524 : (x.op == 64524) = false := by rw [beq_eq_false_iff_ne]; exact h64524
    by_cases h64525 : x.op = 64525
    · rw [if_pos h64525] at hR
      rw [h64525] at m1
      rcases hq : Mc.within x.a ((t.elems : Int) - 1) with _ | _
      all_goals
        rw [hq] at hR
        go_wp2_with (go_at_call 24; refine (within_any _ _ _).mono ?_; rintro e w1 ⟨rfl, rfl⟩)
        refine bodyPost_ret (results_cell_row rfl _ _ (w.heap.size + 2) _ _ (0, 0) _ rfl (put5 S.out.rs _ _ _ _ _).1 Tryz.underlying130 rfl (by kernel_rfl)) rfl ?_
        exact ⟨by rw [← hR]; rfl, below_grown S.out.bel (put5 S.out.rs _ _ _ _ _).2 S.out.bel.size (by omega)⟩
    rw [if_neg h64525] at hR
    have b64525 : (x.op == 64525) = false := by rw [beq_eq_false_iff_ne]; exact h64525
    clear h37 h38 h64528 h64527 h64529 h64526 h64524 h64525
    go_wp2_with (go_at_call 24; refine (within_any _ _ _).mono ?_; rintro e w1 ⟨rfl, rfl⟩)
    refine bodyPost_ret (results_cell_row rfl _ _ (w.heap.size + 2) _ _ (0, 0) _ rfl (put5 S.out.rs _ _ _ _ _).1 Tryz.underlying130 rfl (by kernel_rfl)) rfl ?_
    exact ⟨by rw [← hR]; rfl, below_grown S.out.bel (put5 S.out.rs _ _ _ _ _).2 S.out.bel.size (by omega)⟩
  · skip
    by_cases h37 : x.op = 37
    · rw [if_pos h37] at hR
      rw [h37] at m1
      go_wp2_with (go_at_call 24; refine (within_any _ _ _).mono ?_; rintro e w1 ⟨rfl, rfl⟩)
      refine bodyPost_ret (results_cell_row rfl _ _ (w.heap.size + 2) _ _ (0, 0) _ rfl (put5 S.out.rs _ _ _ _ _).1 Tryz.underlying130 rfl (by kernel_rfl)) rfl ?_
      exact ⟨by rw [← hR]; rfl, below_grown S.out.bel (put5 S.out.rs _ _ _ _ _).2 S.out.bel.size (by omega)⟩
    rw [if_neg h37] at hR
    have b37 : (x.op == 37) = false := by rw [beq_eq_false_iff_ne]; exact h37
    by_cases h38 : x.op = 38
    · rw [if_pos h38] at hR
      rw [h38] at m1
      go_wp2_with (go_at_call 24; refine (within_any _ _ _).mono ?_; rintro e w1 ⟨rfl, rfl⟩)
      refine bodyPost_ret (results_cell_row rfl _ _ (w.heap.size + 2) _ _ (0, 0) _ rfl (put5 S.out.rs _ _ _ _ _).1 Tryz.underlying130 rfl (by kernel_rfl)) rfl ?_
      exact ⟨by rw [← hR]; rfl, below_grown S.out.bel (put5 S.out.rs _ _ _ _ _).2 S.out.bel.size (by omega)⟩
    rw [if_neg h38] at hR
    have b38 : (x.op == 38) = false := by rw [beq_eq_false_iff_ne]; exact h38
    by_cases h64528 : x.op = 64528
    · rw [if_pos h64528] at hR
      rw [h64528] at m1
      go_wp2_with (go_at_call 24; refine (within_any _ _ _).mono ?_; rintro e w1 ⟨rfl, rfl⟩)
      refine bodyPost_ret (results_cell_row rfl _ _ (w.heap.size + 2) _ _ (0, 0) _ rfl (put5 S.out.rs _ _ _ _ _).1 Tryz.underlying130 rfl (by kernel_rfl)) rfl ?_
      exact ⟨by rw [← hR]; rfl, below_grown S.out.bel (put5 S.out.rs _ _ _ _ _).2 S.out.bel.size (by omega)⟩
    rw [if_neg h64528] at hR
    have b64528 : (x.op == 64528) = false := by rw [beq_eq_false_iff_ne]; exact h64528
    by_cases h64527 : x.op = 64527
    · rw [if_pos h64527] at hR
      rw [h64527] at m1
      go_wp2_with (go_at_call 24; refine (within_any _ _ _).mono ?_; rintro e w1 ⟨rfl, rfl⟩)
      refine bodyPost_ret (results_cell_row rfl _ _ (w.heap.size + 2) _ _ (0, 0) _ rfl (put5 S.out.rs _ _ _ _ _).1 Tryz.underlying130 rfl (by kernel_rfl)) rfl ?_
      exact ⟨by rw [← hR]; rfl, below_grown S.out.bel (put5 S.out.rs _ _ _ _ _).2 S.out.bel.size (by omega)⟩
    rw [if_neg h64527] at hR
    have b64527 : (x.op == 64527) = false := by rw [beq_eq_false_iff_ne]; exact h64527
    by_cases h64529 : x.op = 64529
    · rw [if_pos h64529] at hR
      rw [h64529] at m1
      go_wp2_with (go_at_call 24; refine (within_any _ _ _).mono ?_; rintro e w1 ⟨rfl, rfl⟩)
      refine bodyPost_ret (results_cell_row rfl _ _ (w.heap.size + 2) _ _ (0, 0) _ rfl (put5 S.out.rs _ _ _ _ _).1 Tryz.underlying130 rfl (by kernel_rfl)) rfl ?_
      exact ⟨by rw [← hR]; rfl, below_grown S.out.bel (put5 S.out.rs _ _ _ _ _).2 S.out.bel.size (by omega)⟩
    rw [if_neg h64529] at hR
    have b64529 : (x.op == 64529) = false := by rw [beq_eq_false_iff_ne]; exact h64529
    by_cases h64526 : x.op = 64526
    · rw [if_pos h64526] at hR
      rw [h64526] at m1
      go_wp2_with (go_at_call 24; refine (within_any _ _ _).mono ?_; rintro e w1 ⟨rfl, rfl⟩)
      refine bodyPost_ret (results_cell_row rfl _ _ (w.heap.size + 2) _ _ (0, 0) _ rfl (put5 S.out.rs _ _ _ _ _).1 Tryz.underlying130 rfl (by kernel_rfl)) rfl ?_
      exact ⟨by rw [← hR]; rfl, below_grown S.out.bel (put5 S.out.rs _ _ _ _ _).2 S.out.bel.size (by omega)⟩
    rw [if_neg h64526] at hR
    have b64526 : (x.op == 64526) = false := by rw [beq_eq_false_iff_ne]; exact h64526
    by_cases h64524 : x.op = 64524
    · rw [if_pos h64524] at hR
      rw [h64524] at m1
      rcases hq : Mc.within x.a ((t.elems : Int) - 1) with _ | _
      all_goals
        rw [hq] at hR
        go_wp2_with (go_at_call 24; refine (within_any _ _ _).mono ?_; rintro e w1 ⟨rfl, rfl⟩)
        refine bodyPost_ret (results_cell_row rfl _ _ (w.heap.size + 2) _ _ (0, 0) _ rfl (put5 S.out.rs _ _ _ _ _).1 Tryz.underlying130 rfl (by kernel_rfl)) rfl ?_
        exact ⟨by rw [← hR]; rfl, below_grown S.out.bel (put5 S.out.rs _ _ _ _ _).2 S.out.bel.size (by omega)⟩
    rw [if_neg h64524] at hR
    have b64524 : (x.op == 64524) = false := by rw [beq_eq_false_iff_ne]; exact h64524
    by_cases h64525 : x.op = 64525
    · rw [if_pos h64525] at hR
      rw [h64525] at m1
      rcases hq : Mc.within x.a ((t.elems : Int) - 1) with _ | _
      all_goals
        rw [hq] at hR
        go_wp2_with (go_at_call 24; refine (within_any _ _ _).mono ?_; rintro e w1 ⟨rfl, rfl⟩)
        refine bodyPost_ret (results_cell_row rfl _ _ (w.heap.size + 2) _ _ (0, 0) _ rfl (put5 S.out.rs _ _ _ _ _).1 Tryz.underlying130 rfl (by kernel_rfl)) rfl ?_
        exact ⟨by rw [← hR]; rfl, below_grown S.out.bel (put5 S.out.rs _ _ _ _ _).2 S.out.bel.size (by omega)⟩
    rw [if_neg h64525] at hR
    have b64525 : (x.op == 64525) = false := by rw [beq_eq_false_iff_ne]; exact h64525
    clear h37 h38 h64528 h64527 h64529 h64526 h64524 h64525
    go_wp2_with (go_at_call 24; refine (within_any _ _ _).mono ?_; rintro e w1 ⟨rfl, rfl⟩)
    refine bodyPost_ret (results_cell_row rfl _ _ (w.heap.size + 2) _ _ (0, 0) _ rfl (put5 S.out.rs _ _ _ _ _).1 Tryz.underlying130 rfl (by kernel_rfl)) rfl ?_
    exact ⟨by rw [← hR]; rfl, below_grown S.out.bel (put5 S.out.rs _ _ _ _ _).2 S.out.bel.size (by omega)⟩
set_option maxHeartbeats 4000000 in
set_option maxRecDepth 100000 in
theorem mtyp_any (t : Th) (hf : t.Few) (X : TX) (i : Int) (S : Nat → Prop) (w : World) (h : ThRd S w t X) :
    Calls Tryz.prog 144 #[.agg (thA t X), .int .i64 i] w fun e w' => SgOut (Mc.typLen t i) e ∧ Below w.heap.size w w' := by
  obtain ⟨R, hR⟩ : ∃ R, Mc.typLen t i = R := ⟨_, rfl⟩
  rw [hR]
  unfold Mc.typLen at hR
  have wy := wrap_pred hf.ty
  have HB := Lib.hid (((Below.refl w.heap.size w).alloc (Nat.le_refl _) (.cells (thA t X) 97)).alloc (by simp) (.cells #[.slice none 0 0, .slice none 0 0] 36))
  have V0 := Lib.hid ((Var.new w (thA t X) 97).alloc (.cells #[.slice none 0 0, .slice none 0 0] 36))
  have V1 : Hid (Var ((w.alloc (.cells (thA t X) 97)).alloc (.cells #[.slice none 0 0, .slice none 0 0] 36)) (w.heap.size + 1) #[.slice none 0 0, .slice none 0 0] 36) := Lib.hid (by have h := Var.new (w.alloc (.cells (thA t X) 97)) #[.slice none 0 0, .slice none 0 0] 36; simpa using h)
  have HT := Lib.hid (h.on HB.out)
  go_enter Tryz.func144, Tryz.ntmps144
  go_upto_region 1 with fail
  refine at_code (F := fun W => Hid (Below w.heap.size w W) ∧ Hid (Var W w.heap.size (thA t X) 97) ∧ Hid (Var W (w.heap.size + 1) #[.slice none 0 0, .slice none 0 0] 36) ∧ Hid (ThRd S W t X)) ⟨HB, V0, V1, HT⟩ ?_
  clear HB V0 V1 HT h
  rintro W ⟨HB, V0, V1, HT⟩
  obtain ⟨⟨g0, g1, g2, g3, g4, g5, g6, g7⟩, g8, g9, g10, g11, g12, g13, g14, g15⟩ := thA_cells V0.out
  obtain ⟨q0, q1⟩ := cells2 V1.out
  have z0 := V1.out.froz 0
  have z1 := V1.out.froz 1
  have hlt := V1.out.lt
  rcases he : Mc.ent t.types i with _ | f
  · rw [he] at hR
    have hin : Mc.within i ((t.types.length : Int) - 1) = false := Mc.ent_none he
    clear he HT
    go_wp2_with (go_at_call 24; refine (within_any _ _ _).mono ?_; rintro e w1 ⟨rfl, rfl⟩)
    refine bodyPost_ret (results_cell_row_tmp rfl _ _ (w.heap.size + 1) _ _ (0, 0) _ rfl ((V1.out.set 0 _).set 1 _) Tryz.underlying36 rfl (by kernel_rfl)) rfl ?_
    obtain rfl := hR
    exact ⟨⟨_, _, _, _, rfl⟩, below_set HB.out (by omega) _ _⟩
  · rw [he] at hR
    obtain ⟨hin, k, rfl, hk, hf2⟩ := Mc.ent_some he
    have hin : Mc.within (k : Int) ((t.types.length : Int) - 1) = true := hin
    obtain ⟨g, o, ha, -, hg, hty⟩ := HT.out.ty.get hk
    rw [hf2] at hty
    rw [ha] at g0
    obtain ⟨A, c, B, d, f0, f1⟩ := hty
    have x0 : (0 : Int) ≤ (k : Int) := by omega
    have x1 : (k : Int) < (t.types.length : Int) := by omega
    clear he HT hf2
    go_wp2_with (go_at_call 24; refine (within_any _ _ _).mono ?_; rintro e w1 ⟨rfl, rfl⟩)
    refine bodyPost_ret (results_cell_row_tmp rfl _ _ (w.heap.size + 1) _ _ (0, 0) _ rfl ((V1.out.set 0 _).set 1 _) Tryz.underlying36 rfl (by kernel_rfl)) rfl ?_
    obtain rfl := hR
    exact ⟨⟨_, _, _, _, rfl⟩, below_set HB.out (by omega) _ _⟩
end Go.Proofs.YtadnfekogmjieaaGreatDoor
