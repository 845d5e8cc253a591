/-
  Layer 51, the program: wants. (Printed by gen_mc7.py.)
-/
import Derived.Test.YtadnfekogmjieaaGreatDoorGMC6
set_option linter.unusedVariables false
set_option linter.unusedSimpArgs false
namespace Go.Proofs.YtadnfekogmjieaaGreatDoor
open Go.RowKit
open Mc (Pl Mi Mf Th Wt)
theorem mfV_cells {W : World} {K : Nat} {T : TypeId} {f : Mf} {P : Option Addr} {c1 : Nat} {R : Option Addr} {c2 : Nat} {C : Option Addr} {c3 : Nat} (h : Var W K (mfV f P c1 R c2 C c3) T) :
    W.cell? ⟨K, 0, none⟩ = some (.slice P f.ps.length c1) ∧ W.cell? ⟨K, 1, none⟩ = some (.slice R f.rs.length c2) ∧ W.cell? ⟨K, 2, none⟩ = some (.int .i64 f.slots) ∧ W.cell? ⟨K, 3, none⟩ = some (.slice C f.code.length c3) := ⟨h.cells 0, h.cells 1, h.cells 2, h.cells 3⟩
structure B4 (w W : World) (tv mv fv : Array Value) : Prop where
  bel : Below w.heap.size w W
  th : Var W w.heap.size tv 97
  mi : Var W (w.heap.size + 1) mv 61
  mf : Var W (w.heap.size + 2) fv 39
  rs : Var W (w.heap.size + 3) wt0V 130
theorem B4.new (w : World) (tv mv fv : Array Value) : B4 w ((((w.alloc (.cells tv 97)).alloc (.cells mv 61)).alloc (.cells fv 39)).alloc (.cells wt0V 130)) tv mv fv :=
  ⟨(((((Below.refl w.heap.size w).alloc (Nat.le_refl _) _).alloc (by simp) _).alloc (by simp; omega) _).alloc (by simp; omega) _), (((Var.new w _ _).alloc _).alloc _).alloc _, by have h := ((Var.new (w.alloc (.cells tv 97)) mv 61).alloc (.cells fv 39)).alloc (.cells wt0V 130); simpa using h, by have h := (Var.new ((w.alloc (.cells tv 97)).alloc (.cells mv 61)) fv 39).alloc (.cells wt0V 130); simpa using h, by have h := Var.new (((w.alloc (.cells tv 97)).alloc (.cells mv 61)).alloc (.cells fv 39)) wt0V 130; simpa using h⟩
theorem B4.below {w W W' : World} {tv mv fv : Array Value} (h : B4 w W tv mv fv) (hb : Below W.heap.size W W') : B4 w W' tv mv fv := ⟨h.bel.trans (hb.mono h.bel.size), var_keep h.th hb, var_keep h.mi hb, var_keep h.mf hb, var_keep h.rs hb⟩
set_option maxHeartbeats 16000000 in
set_option maxRecDepth 100000 in
theorem mwants_any (t : Th) (hf : t.Few) (X : TX) (x : Mi) (hkk : ∃ k : Nat, x.kind = k ∧ k ≤ 23) (D : Option Addr) (c1 : Nat) (E : Option Addr) (c2 : Nat) (T : Option Addr) (c3 : Nat) (f : Mf) (P : Option Addr) (p1 : Nat) (R0 : Option Addr) (p2 : Nat) (C : Option Addr) (p3 : Nat) (S0 : Nat → Prop) (w : World) (G : Glob w) (h : ThRd S0 w t X) :
    Calls Tryz.prog 56 #[.agg (thA t X), .agg (miV x D c1 E c2 T c3), .agg (mfV f P p1 R0 p2 C p3)] w fun e w' => e = .returned (.agg (wtV (Mc.want t x f.rs.length))) ∧ Below w.heap.size w w' := by
  obtain ⟨R, hR⟩ : ∃ R, Mc.want t x f.rs.length = R := ⟨_, rfl⟩
  rw [hR]
  have wm := wrap_pred hf.mm
  have hB0 := Lib.hid (B4.new w (thA t X) (miV x D c1 E c2 T c3) (mfV f P p1 R0 p2 C p3))
  have HT := Lib.hid (h.on hB0.out.bel)
  have HG := Lib.hid (G.below hB0.out.bel)
  clear h G
  go_enter Tryz.func56, Tryz.ntmps56
  go_upto_region 1 with fail
  refine at_code (F := fun W => Hid (B4 w W (thA t X) (miV x D c1 E c2 T c3) (mfV f P p1 R0 p2 C p3)) ∧ Hid (ThRd S0 W t X) ∧ Hid (Glob W)) ⟨Lib.hid hB0.out, HT, HG⟩ ?_
  clear hB0 HT HG
  rintro W ⟨S, HT, HG⟩
  obtain ⟨⟨g0, g1, g2, g3, g4, g5, g6, g7⟩, g8, g9, g10, g11, g12, g13, g14, g15⟩ := thA_cells S.out.th
  obtain ⟨m0, m1, m2, m3, m4, m5, m6, m7, m8⟩ := miV_cells S.out.mi
  obtain ⟨y0, y1, y2, y3⟩ := mfV_cells S.out.mf
  obtain ⟨⟨r0, r1, r2, r3, r4⟩, z0, z1, z2, z3, z4⟩ := cells5 S.out.rs
  have hlt := S.out.rs.lt
  obtain ⟨k, hk, hk23⟩ := hkk
  match k, hk23 with
  | 0, _ =>
    have hk : x.kind = 0 := hk
    have hR2 : (⟨1, 0, 0, false, true⟩ : Wt) = R := by rw [← hR]; unfold Mc.want; rw [hk]; rfl
    rw [hk] at m0
    clear hR
    go_wp2_with fail
    refine bodyPost_ret (results_cell_row rfl _ _ (w.heap.size + 3) _ _ (0, 0) _ rfl (put5 S.out.rs _ _ _ _ _).1 Tryz.underlying130 rfl (by kernel_rfl)) rfl ?_
    exact ⟨by rw [← hR2]; rfl, below_grown S.out.bel (put5 S.out.rs _ _ _ _ _).2 S.out.bel.size (by omega)⟩
  | 1, _ =>
    have hk : x.kind = 1 := hk
    have hR2 : (⟨1, 1, 0, false, true⟩ : Wt) = R := by rw [← hR]; unfold Mc.want; rw [hk]; rfl
    rw [hk] at m0
    clear hR
    go_wp2_with fail
    refine bodyPost_ret (results_cell_row rfl _ _ (w.heap.size + 3) _ _ (0, 0) _ rfl (put5 S.out.rs _ _ _ _ _).1 Tryz.underlying130 rfl (by kernel_rfl)) rfl ?_
    exact ⟨by rw [← hR2]; rfl, below_grown S.out.bel (put5 S.out.rs _ _ _ _ _).2 S.out.bel.size (by omega)⟩
  | 2, _ =>
    have hk : x.kind = 2 := hk
    have hR2 : (⟨1, 1, 0, false, Mc.numO2 x.op == 1⟩ : Wt) = R := by rw [← hR]; unfold Mc.want; rw [hk]; rfl
    rw [hk] at m0
    clear hR
    have HNu := Lib.hid (mnumeric_any x.op W HG.out)
    obtain ⟨q, hq⟩ : ∃ q, Mc.numO2 x.op = q := ⟨_, rfl⟩
    rw [hq] at HNu hR2
    have hqi : ((q : Int) == 1) = (q == 1) := by rw [Bool.eq_iff_iff]; simp; omega
    clear hq
    rcases hqb : (q == 1) with _ | _
    all_goals
      rw [hqb] at hqi hR2
      go_wp2_with (go_at_call 104; refine HNu.out.mono ?_; rintro e w3 ⟨rfl, hb⟩; have S := Lib.hid (S.out.below hb); obtain ⟨⟨r0, r1, r2, r3, r4⟩, z0, z1, z2, z3, z4⟩ := cells5 S.out.rs; have hlt := S.out.rs.lt)
      refine bodyPost_ret (results_cell_row rfl _ _ (w.heap.size + 3) _ _ (0, 0) _ rfl (put5 S.out.rs _ _ _ _ _).1 Tryz.underlying130 rfl (by kernel_rfl)) rfl ?_
      exact ⟨by rw [← hR2]; rfl, below_grown S.out.bel (put5 S.out.rs _ _ _ _ _).2 S.out.bel.size (by omega)⟩
  | 3, _ =>
    have hk : x.kind = 3 := hk
    have hR2 : (⟨1, 2, 0, false, Mc.numO2 x.op == 2⟩ : Wt) = R := by rw [← hR]; unfold Mc.want; rw [hk]; rfl
    rw [hk] at m0
    clear hR
    have HNu := Lib.hid (mnumeric_any x.op W HG.out)
    obtain ⟨q, hq⟩ : ∃ q, Mc.numO2 x.op = q := ⟨_, rfl⟩
    rw [hq] at HNu hR2
    have hqi : ((q : Int) == 2) = (q == 2) := by rw [Bool.eq_iff_iff]; simp; omega
    clear hq
    rcases hqb : (q == 2) with _ | _
    all_goals
      rw [hqb] at hqi hR2
      go_wp2_with (go_at_call 104; refine HNu.out.mono ?_; rintro e w3 ⟨rfl, hb⟩; have S := Lib.hid (S.out.below hb); obtain ⟨⟨r0, r1, r2, r3, r4⟩, z0, z1, z2, z3, z4⟩ := cells5 S.out.rs; have hlt := S.out.rs.lt)
      refine bodyPost_ret (results_cell_row rfl _ _ (w.heap.size + 3) _ _ (0, 0) _ rfl (put5 S.out.rs _ _ _ _ _).1 Tryz.underlying130 rfl (by kernel_rfl)) rfl ?_
      exact ⟨by rw [← hR2]; rfl, below_grown S.out.bel (put5 S.out.rs _ _ _ _ _).2 S.out.bel.size (by omega)⟩
  | 4, _ =>
    have hk : x.kind = 4 := hk
    have hR2 : (⟨1, 3, 0, false, true⟩ : Wt) = R := by rw [← hR]; unfold Mc.want; rw [hk]; rfl
    rw [hk] at m0
    clear hR
    go_wp2_with fail
    refine bodyPost_ret (results_cell_row rfl _ _ (w.heap.size + 3) _ _ (0, 0) _ rfl (put5 S.out.rs _ _ _ _ _).1 Tryz.underlying130 rfl (by kernel_rfl)) rfl ?_
    exact ⟨by rw [← hR2]; rfl, below_grown S.out.bel (put5 S.out.rs _ _ _ _ _).2 S.out.bel.size (by omega)⟩
  | 5, _ =>
    have hk : x.kind = 5 := hk
    have hR2 : (⟨1, 1, 0, false, Mc.accW t x 1⟩ : Wt) = R := by rw [← hR]; unfold Mc.want; rw [hk]; rfl
    rw [hk] at m0
    clear hR
    have HAc := Lib.hid (maccess_any t hf X x D c1 E c2 T c3 1 W HG.out)
    obtain ⟨q, hq⟩ : ∃ q, Mc.accW t x 1 = q := ⟨_, rfl⟩
    rw [hq] at HAc hR2
    unfold thA miV at HAc
    rw [hk] at HAc
    clear hq
    go_wp2_with (go_at_call 105; refine HAc.out.mono ?_; rintro e w3 ⟨rfl, hb⟩; have S := Lib.hid (S.out.below hb); obtain ⟨⟨r0, r1, r2, r3, r4⟩, z0, z1, z2, z3, z4⟩ := cells5 S.out.rs; have hlt := S.out.rs.lt)
    refine bodyPost_ret (results_cell_row rfl _ _ (w.heap.size + 3) _ _ (0, 0) _ rfl (put5 S.out.rs _ _ _ _ _).1 Tryz.underlying130 rfl (by kernel_rfl)) rfl ?_
    exact ⟨by rw [← hR2]; rfl, below_grown S.out.bel (put5 S.out.rs _ _ _ _ _).2 S.out.bel.size (by omega)⟩
  | 6, _ =>
    have hk : x.kind = 6 := hk
    have hR2 : (⟨0, 2, 0, false, Mc.accW t x 2⟩ : Wt) = R := by rw [← hR]; unfold Mc.want; rw [hk]; rfl
    rw [hk] at m0
    clear hR
    have HAc := Lib.hid (maccess_any t hf X x D c1 E c2 T c3 2 W HG.out)
    obtain ⟨q, hq⟩ : ∃ q, Mc.accW t x 2 = q := ⟨_, rfl⟩
    rw [hq] at HAc hR2
    unfold thA miV at HAc
    rw [hk] at HAc
    clear hq
    go_wp2_with (go_at_call 105; refine HAc.out.mono ?_; rintro e w3 ⟨rfl, hb⟩; have S := Lib.hid (S.out.below hb); obtain ⟨⟨r0, r1, r2, r3, r4⟩, z0, z1, z2, z3, z4⟩ := cells5 S.out.rs; have hlt := S.out.rs.lt)
    refine bodyPost_ret (results_cell_row rfl _ _ (w.heap.size + 3) _ _ (0, 0) _ rfl (put5 S.out.rs _ _ _ _ _).1 Tryz.underlying130 rfl (by kernel_rfl)) rfl ?_
    exact ⟨by rw [← hR2]; rfl, below_grown S.out.bel (put5 S.out.rs _ _ _ _ _).2 S.out.bel.size (by omega)⟩
  | 7, _ =>
    have hk : x.kind = 7 := hk
    have hR2 : (⟨0, 1, 0, false, ((decide (1 ≤ x.a) && decide (x.a ≤ 8)) && Mc.within x.b ((t.mems : Int) - 1)) && decide (x.n ≤ 4294967295)⟩ : Wt) = R := by rw [← hR]; unfold Mc.want; rw [hk]; rfl
    rw [hk] at m0
    clear hR
    have hn4 : decide (x.n ≤ 4294967295) = decide ((x.n : Int) ≤ 4294967295) := by congr 1; exact propext ⟨fun h => by omega, fun h => by omega⟩
    rw [hn4] at hR2
    rcases d1 : decide (1 ≤ x.a) with _ | _
    all_goals rw [d1] at hR2
    · skip
      go_wp2_with fail
      refine bodyPost_ret (results_cell_row rfl _ _ (w.heap.size + 3) _ _ (0, 0) _ rfl (put5 S.out.rs _ _ _ _ _).1 Tryz.underlying130 rfl (by kernel_rfl)) rfl ?_
      exact ⟨by rw [← hR2]; rfl, below_grown S.out.bel (put5 S.out.rs _ _ _ _ _).2 S.out.bel.size (by omega)⟩
    rcases d2 : decide (x.a ≤ 8) with _ | _
    all_goals rw [d2] at hR2
    · skip
      go_wp2_with fail
      refine bodyPost_ret (results_cell_row rfl _ _ (w.heap.size + 3) _ _ (0, 0) _ rfl (put5 S.out.rs _ _ _ _ _).1 Tryz.underlying130 rfl (by kernel_rfl)) rfl ?_
      exact ⟨by rw [← hR2]; rfl, below_grown S.out.bel (put5 S.out.rs _ _ _ _ _).2 S.out.bel.size (by omega)⟩
    rcases hm : Mc.within x.b ((t.mems : Int) - 1) with _ | _
    all_goals rw [hm] at hR2
    · skip
      go_wp2_with (go_at_call 24; refine (within_any _ _ _).mono ?_; rintro e w1 ⟨rfl, rfl⟩)
      refine bodyPost_ret (results_cell_row rfl _ _ (w.heap.size + 3) _ _ (0, 0) _ rfl (put5 S.out.rs _ _ _ _ _).1 Tryz.underlying130 rfl (by kernel_rfl)) rfl ?_
      exact ⟨by rw [← hR2]; rfl, below_grown S.out.bel (put5 S.out.rs _ _ _ _ _).2 S.out.bel.size (by omega)⟩
    go_wp2_with (go_at_call 24; refine (within_any _ _ _).mono ?_; rintro e w1 ⟨rfl, rfl⟩)
    refine bodyPost_ret (results_cell_row rfl _ _ (w.heap.size + 3) _ _ (0, 0) _ rfl (put5 S.out.rs _ _ _ _ _).1 Tryz.underlying130 rfl (by kernel_rfl)) rfl ?_
    exact ⟨by rw [← hR2]; simp [wtV], below_grown S.out.bel (put5 S.out.rs _ _ _ _ _).2 S.out.bel.size (by omega)⟩
  | 8, _ =>
    have hk : x.kind = 8 := hk
    have hR2 : (⟨1, 0, 0, false, Mc.within x.b ((t.mems : Int) - 1)⟩ : Wt) = R := by rw [← hR]; unfold Mc.want; rw [hk]; rfl
    rw [hk] at m0
    clear hR
    go_wp2_with (go_at_call 24; refine (within_any _ _ _).mono ?_; rintro e w1 ⟨rfl, rfl⟩)
    refine bodyPost_ret (results_cell_row rfl _ _ (w.heap.size + 3) _ _ (0, 0) _ rfl (put5 S.out.rs _ _ _ _ _).1 Tryz.underlying130 rfl (by kernel_rfl)) rfl ?_
    exact ⟨by rw [← hR2]; rfl, below_grown S.out.bel (put5 S.out.rs _ _ _ _ _).2 S.out.bel.size (by omega)⟩
  | 9, _ =>
    have hk : x.kind = 9 := hk
    have hR2 : (⟨1, 1, 0, false, Mc.within x.b ((t.mems : Int) - 1)⟩ : Wt) = R := by rw [← hR]; unfold Mc.want; rw [hk]; rfl
    rw [hk] at m0
    clear hR
    go_wp2_with (go_at_call 24; refine (within_any _ _ _).mono ?_; rintro e w1 ⟨rfl, rfl⟩)
    refine bodyPost_ret (results_cell_row rfl _ _ (w.heap.size + 3) _ _ (0, 0) _ rfl (put5 S.out.rs _ _ _ _ _).1 Tryz.underlying130 rfl (by kernel_rfl)) rfl ?_
    exact ⟨by rw [← hR2]; rfl, below_grown S.out.bel (put5 S.out.rs _ _ _ _ _).2 S.out.bel.size (by omega)⟩
  | 10, _ =>
    have hk : x.kind = 10 := hk
    have HNa := Lib.hid (mnamed_any t hf X x (.inl hk) D c1 E c2 T c3 S0 W HT.out)
    have hn : Mc.namedW t x = R := by rw [← hR]; unfold Mc.namedW Mc.want; rw [hk]; rfl
    rw [hn] at HNa
    unfold thA miV wtV at HNa
    rw [hk] at HNa m0
    clear hR hn
    go_wp2_with (go_at_call 106; refine HNa.out.mono ?_; rintro e w3 ⟨rfl, hb⟩; have S := Lib.hid (S.out.below hb); obtain ⟨⟨r0, r1, r2, r3, r4⟩, z0, z1, z2, z3, z4⟩ := cells5 S.out.rs; have hlt := S.out.rs.lt)
    refine bodyPost_ret (results_cell_row rfl _ _ (w.heap.size + 3) _ _ (0, 0) _ rfl (put5 S.out.rs _ _ _ _ _).1 Tryz.underlying130 rfl (by kernel_rfl)) rfl ?_
    exact ⟨rfl, below_grown S.out.bel (put5 S.out.rs _ _ _ _ _).2 S.out.bel.size (by omega)⟩
  | 11, _ =>
    have hk : x.kind = 11 := hk
    have HNa := Lib.hid (mnamed_any t hf X x (.inr (.inl hk)) D c1 E c2 T c3 S0 W HT.out)
    have hn : Mc.namedW t x = R := by rw [← hR]; unfold Mc.namedW Mc.want; rw [hk]; rfl
    rw [hn] at HNa
    unfold thA miV wtV at HNa
    rw [hk] at HNa m0
    clear hR hn
    go_wp2_with (go_at_call 106; refine HNa.out.mono ?_; rintro e w3 ⟨rfl, hb⟩; have S := Lib.hid (S.out.below hb); obtain ⟨⟨r0, r1, r2, r3, r4⟩, z0, z1, z2, z3, z4⟩ := cells5 S.out.rs; have hlt := S.out.rs.lt)
    refine bodyPost_ret (results_cell_row rfl _ _ (w.heap.size + 3) _ _ (0, 0) _ rfl (put5 S.out.rs _ _ _ _ _).1 Tryz.underlying130 rfl (by kernel_rfl)) rfl ?_
    exact ⟨rfl, below_grown S.out.bel (put5 S.out.rs _ _ _ _ _).2 S.out.bel.size (by omega)⟩
  | 12, _ =>
    have hk : x.kind = 12 := hk
    have HNa := Lib.hid (mnamed_any t hf X x (.inr (.inr (.inr (.inl hk)))) D c1 E c2 T c3 S0 W HT.out)
    have hn : Mc.namedW t x = R := by rw [← hR]; unfold Mc.namedW Mc.want; rw [hk]; rfl
    rw [hn] at HNa
    unfold thA miV wtV at HNa
    rw [hk] at HNa m0
    clear hR hn
    go_wp2_with (go_at_call 106; refine HNa.out.mono ?_; rintro e w3 ⟨rfl, hb⟩; have S := Lib.hid (S.out.below hb); obtain ⟨⟨r0, r1, r2, r3, r4⟩, z0, z1, z2, z3, z4⟩ := cells5 S.out.rs; have hlt := S.out.rs.lt)
    refine bodyPost_ret (results_cell_row rfl _ _ (w.heap.size + 3) _ _ (0, 0) _ rfl (put5 S.out.rs _ _ _ _ _).1 Tryz.underlying130 rfl (by kernel_rfl)) rfl ?_
    exact ⟨rfl, below_grown S.out.bel (put5 S.out.rs _ _ _ _ _).2 S.out.bel.size (by omega)⟩
  | 13, _ =>
    have hk : x.kind = 13 := hk
    have HNa := Lib.hid (mnamed_any t hf X x (.inr (.inr (.inr (.inr (.inl hk))))) D c1 E c2 T c3 S0 W HT.out)
    have hn : Mc.namedW t x = R := by rw [← hR]; unfold Mc.namedW Mc.want; rw [hk]; rfl
    rw [hn] at HNa
    unfold thA miV wtV at HNa
    rw [hk] at HNa m0
    clear hR hn
    go_wp2_with (go_at_call 106; refine HNa.out.mono ?_; rintro e w3 ⟨rfl, hb⟩; have S := Lib.hid (S.out.below hb); obtain ⟨⟨r0, r1, r2, r3, r4⟩, z0, z1, z2, z3, z4⟩ := cells5 S.out.rs; have hlt := S.out.rs.lt)
    refine bodyPost_ret (results_cell_row rfl _ _ (w.heap.size + 3) _ _ (0, 0) _ rfl (put5 S.out.rs _ _ _ _ _).1 Tryz.underlying130 rfl (by kernel_rfl)) rfl ?_
    exact ⟨rfl, below_grown S.out.bel (put5 S.out.rs _ _ _ _ _).2 S.out.bel.size (by omega)⟩
  | 14, _ =>
    have hk : x.kind = 14 := hk
    have HNa := Lib.hid (mnamed_any t hf X x (.inr (.inr (.inl hk))) D c1 E c2 T c3 S0 W HT.out)
    have hn : Mc.namedW t x = R := by rw [← hR]; unfold Mc.namedW Mc.want; rw [hk]; rfl
    rw [hn] at HNa
    unfold thA miV wtV at HNa
    rw [hk] at HNa m0
    clear hR hn
    go_wp2_with (go_at_call 106; refine HNa.out.mono ?_; rintro e w3 ⟨rfl, hb⟩; have S := Lib.hid (S.out.below hb); obtain ⟨⟨r0, r1, r2, r3, r4⟩, z0, z1, z2, z3, z4⟩ := cells5 S.out.rs; have hlt := S.out.rs.lt)
    refine bodyPost_ret (results_cell_row rfl _ _ (w.heap.size + 3) _ _ (0, 0) _ rfl (put5 S.out.rs _ _ _ _ _).1 Tryz.underlying130 rfl (by kernel_rfl)) rfl ?_
    exact ⟨rfl, below_grown S.out.bel (put5 S.out.rs _ _ _ _ _).2 S.out.bel.size (by omega)⟩
  | 15, _ =>
    have hk : x.kind = 15 := hk
    have hR2 : (⟨1, 1, 0, false, true⟩ : Wt) = R := by rw [← hR]; unfold Mc.want; rw [hk]; rfl
    rw [hk] at m0
    clear hR
    go_wp2_with fail
    refine bodyPost_ret (results_cell_row rfl _ _ (w.heap.size + 3) _ _ (0, 0) _ rfl (put5 S.out.rs _ _ _ _ _).1 Tryz.underlying130 rfl (by kernel_rfl)) rfl ?_
    exact ⟨by rw [← hR2]; rfl, below_grown S.out.bel (put5 S.out.rs _ _ _ _ _).2 S.out.bel.size (by omega)⟩
  | 16, _ =>
    have hk : x.kind = 16 := hk
    have HNa := Lib.hid (mnamed_any t hf X x (.inr (.inr (.inr (.inr (.inr (.inl hk)))))) D c1 E c2 T c3 S0 W HT.out)
    have hn : Mc.namedW t x = R := by rw [← hR]; unfold Mc.namedW Mc.want; rw [hk]; rfl
    rw [hn] at HNa
    unfold thA miV wtV at HNa
    rw [hk] at HNa m0
    clear hR hn
    go_wp2_with (go_at_call 106; refine HNa.out.mono ?_; rintro e w3 ⟨rfl, hb⟩; have S := Lib.hid (S.out.below hb); obtain ⟨⟨r0, r1, r2, r3, r4⟩, z0, z1, z2, z3, z4⟩ := cells5 S.out.rs; have hlt := S.out.rs.lt)
    refine bodyPost_ret (results_cell_row rfl _ _ (w.heap.size + 3) _ _ (0, 0) _ rfl (put5 S.out.rs _ _ _ _ _).1 Tryz.underlying130 rfl (by kernel_rfl)) rfl ?_
    exact ⟨rfl, below_grown S.out.bel (put5 S.out.rs _ _ _ _ _).2 S.out.bel.size (by omega)⟩
  | 17, _ =>
    have hk : x.kind = 17 := hk
    have HNa := Lib.hid (mnamed_any t hf X x (.inr (.inr (.inr (.inr (.inr (.inr hk)))))) D c1 E c2 T c3 S0 W HT.out)
    have hn : Mc.namedW t x = R := by rw [← hR]; unfold Mc.namedW Mc.want; rw [hk]; rfl
    rw [hn] at HNa
    unfold thA miV wtV at HNa
    rw [hk] at HNa m0
    clear hR hn
    go_wp2_with (go_at_call 106; refine HNa.out.mono ?_; rintro e w3 ⟨rfl, hb⟩; have S := Lib.hid (S.out.below hb); obtain ⟨⟨r0, r1, r2, r3, r4⟩, z0, z1, z2, z3, z4⟩ := cells5 S.out.rs; have hlt := S.out.rs.lt)
    refine bodyPost_ret (results_cell_row rfl _ _ (w.heap.size + 3) _ _ (0, 0) _ rfl (put5 S.out.rs _ _ _ _ _).1 Tryz.underlying130 rfl (by kernel_rfl)) rfl ?_
    exact ⟨rfl, below_grown S.out.bel (put5 S.out.rs _ _ _ _ _).2 S.out.bel.size (by omega)⟩
  | 18, _ =>
    have hk : x.kind = 18 := hk
    have hR2 : (⟨0, 0, 0, false, decide (1 ≤ x.a) && decide (x.a ≤ 4294967295)⟩ : Wt) = R := by rw [← hR]; unfold Mc.want; rw [hk]; rfl
    rw [hk] at m0
    clear hR
    rcases d1 : decide (1 ≤ x.a) with _ | _
    all_goals rw [d1] at hR2
    · skip
      go_wp2_with fail
      refine bodyPost_ret (results_cell_row rfl _ _ (w.heap.size + 3) _ _ (0, 0) _ rfl (put5 S.out.rs _ _ _ _ _).1 Tryz.underlying130 rfl (by kernel_rfl)) rfl ?_
      exact ⟨by rw [← hR2]; rfl, below_grown S.out.bel (put5 S.out.rs _ _ _ _ _).2 S.out.bel.size (by omega)⟩
    go_wp2_with fail
    refine bodyPost_ret (results_cell_row rfl _ _ (w.heap.size + 3) _ _ (0, 0) _ rfl (put5 S.out.rs _ _ _ _ _).1 Tryz.underlying130 rfl (by kernel_rfl)) rfl ?_
    exact ⟨by rw [← hR2]; simp [wtV], below_grown S.out.bel (put5 S.out.rs _ _ _ _ _).2 S.out.bel.size (by omega)⟩
  | 19, _ =>
    have hk : x.kind = 19 := hk
    have hR2 : (⟨0, 0, 1, false, true⟩ : Wt) = R := by rw [← hR]; unfold Mc.want; rw [hk]; rfl
    rw [hk] at m0
    clear hR
    go_wp2_with fail
    refine bodyPost_ret (results_cell_row rfl _ _ (w.heap.size + 3) _ _ (0, 0) _ rfl (put5 S.out.rs _ _ _ _ _).1 Tryz.underlying130 rfl (by kernel_rfl)) rfl ?_
    exact ⟨by rw [← hR2]; rfl, below_grown S.out.bel (put5 S.out.rs _ _ _ _ _).2 S.out.bel.size (by omega)⟩
  | 20, _ =>
    have hk : x.kind = 20 := hk
    have hR2 : (⟨0, 1, 1, false, true⟩ : Wt) = R := by rw [← hR]; unfold Mc.want; rw [hk]; rfl
    rw [hk] at m0
    clear hR
    go_wp2_with fail
    refine bodyPost_ret (results_cell_row rfl _ _ (w.heap.size + 3) _ _ (0, 0) _ rfl (put5 S.out.rs _ _ _ _ _).1 Tryz.underlying130 rfl (by kernel_rfl)) rfl ?_
    exact ⟨by rw [← hR2]; rfl, below_grown S.out.bel (put5 S.out.rs _ _ _ _ _).2 S.out.bel.size (by omega)⟩
  | 21, _ =>
    have hk : x.kind = 21 := hk
    have hR2 : (⟨0, 1, 1, true, true⟩ : Wt) = R := by rw [← hR]; unfold Mc.want; rw [hk]; rfl
    rw [hk] at m0
    clear hR
    go_wp2_with fail
    refine bodyPost_ret (results_cell_row rfl _ _ (w.heap.size + 3) _ _ (0, 0) _ rfl (put5 S.out.rs _ _ _ _ _).1 Tryz.underlying130 rfl (by kernel_rfl)) rfl ?_
    exact ⟨by rw [← hR2]; rfl, below_grown S.out.bel (put5 S.out.rs _ _ _ _ _).2 S.out.bel.size (by omega)⟩
  | 22, _ =>
    have hk : x.kind = 22 := hk
    have hR2 : (⟨0, f.rs.length, 0, false, true⟩ : Wt) = R := by rw [← hR]; unfold Mc.want; rw [hk]; rfl
    rw [hk] at m0
    clear hR
    go_wp2_with fail
    refine bodyPost_ret (results_cell_row rfl _ _ (w.heap.size + 3) _ _ (0, 0) _ rfl (put5 S.out.rs _ _ _ _ _).1 Tryz.underlying130 rfl (by kernel_rfl)) rfl ?_
    exact ⟨by rw [← hR2]; rfl, below_grown S.out.bel (put5 S.out.rs _ _ _ _ _).2 S.out.bel.size (by omega)⟩
  | 23, _ =>
    have hk : x.kind = 23 := hk
    have hR2 : (⟨0, 0, 0, false, decide (1 ≤ x.trap) && decide (x.trap ≤ 12)⟩ : Wt) = R := by rw [← hR]; unfold Mc.want; rw [hk]; rfl
    rw [hk] at m0
    clear hR
    rcases d1 : decide (1 ≤ x.trap) with _ | _
    all_goals rw [d1] at hR2
    · skip
      go_wp2_with fail
      refine bodyPost_ret (results_cell_row rfl _ _ (w.heap.size + 3) _ _ (0, 0) _ rfl (put5 S.out.rs _ _ _ _ _).1 Tryz.underlying130 rfl (by kernel_rfl)) rfl ?_
      exact ⟨by rw [← hR2]; rfl, below_grown S.out.bel (put5 S.out.rs _ _ _ _ _).2 S.out.bel.size (by omega)⟩
    go_wp2_with fail
    refine bodyPost_ret (results_cell_row rfl _ _ (w.heap.size + 3) _ _ (0, 0) _ rfl (put5 S.out.rs _ _ _ _ _).1 Tryz.underlying130 rfl (by kernel_rfl)) rfl ?_
    exact ⟨by rw [← hR2]; simp [wtV], below_grown S.out.bel (put5 S.out.rs _ _ _ _ _).2 S.out.bel.size (by omega)⟩
  | k + 24, hx => omega
end Go.Proofs.YtadnfekogmjieaaGreatDoor
