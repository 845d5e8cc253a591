/-
  Layer 51, the program: access and named. (Printed by gen_mc6.py.)
-/
import Derived.Test.YtadnfekogmjieaaGreatDoorGTj
import Derived.Test.YtadnfekogmjieaaGreatDoorGMC5
import Derived.Test.YtadnfekogmjieaaGreatDoorGTk
import Derived.Deep.Cut
import Derived.Deep.CutRange
set_option linter.unusedVariables false
set_option linter.unusedSimpArgs false
namespace Go.Proofs.YtadnfekogmjieaaGreatDoor
open Go.RowKit
open Mc (Pl Mi Mf Th Wt)
theorem info_want : (Tryz.prog.info? 130).map (·.size) = some 5 := by kernel_rfl
structure B2 (w W : World) (tv mv : Array Value) : Prop where
  bel : Below w.heap.size w W
  th : Var W w.heap.size tv 97
  mi : Var W (w.heap.size + 1) mv 61
theorem B2.new (w : World) (tv mv : Array Value) : B2 w ((w.alloc (.cells tv 97)).alloc (.cells mv 61)) tv mv :=
  ⟨(((Below.refl w.heap.size w).alloc (Nat.le_refl _) _).alloc (by simp) _), ((Var.new w _ _).alloc _), by have h := Var.new (w.alloc (.cells tv 97)) mv 61; simpa using h⟩
theorem B2.below {w W W' : World} {tv mv : Array Value} (h : B2 w W tv mv) (hb : Below W.heap.size W W') : B2 w W' tv mv := ⟨h.bel.trans (hb.mono h.bel.size), var_keep h.th hb, var_keep h.mi hb⟩
set_option maxHeartbeats 4000000 in
set_option maxRecDepth 100000 in
theorem maccess_any (t : Th) (hf : t.Few) (X : TX) (x : Mi) (D : Option Addr) (c1 : Nat) (E : Option Addr) (c2 : Nat) (T : Option Addr) (c3 : Nat) (k : Nat) (w : World) (G : Glob w) :
    Calls Tryz.prog 105 #[.agg (thA t X), .agg (miV x D c1 E c2 T c3), .int .i64 (k : Int)] w fun e w' => e = .returned (.bool (Mc.accW t x k)) ∧ Below w.heap.size w w' := by
  obtain ⟨R, hR⟩ : ∃ R, Mc.accW t x k = R := ⟨_, rfl⟩
  rw [hR]
  unfold Mc.accW Mc.inL at hR
  have wm := wrap_pred hf.mm
  have S0 := Lib.hid (B2.new w (thA t X) (miV x D c1 E c2 T c3))
  have HS := Lib.hid (fun W (G : Glob W) => osig_any x.op W G)
  have HW := Lib.hid (fun W (G : Glob W) => owidth_any x.op W G)
  obtain ⟨⟨⟨np, nr⟩, b⟩, hs⟩ : ∃ y, Mc.sigO x.op = y := ⟨_, rfl⟩
  obtain ⟨wd, hw⟩ : ∃ y, Mc.widO x.op = y := ⟨_, rfl⟩
  rw [hs, hw] at hR
  rw [hs] at HS
  rw [hw] at HW
  dsimp only at hR
  have HG := Lib.hid G
  clear hs hw G hf
  go_enter Tryz.func105, Tryz.ntmps105
  go_upto_region 1 with fail
  refine at_code (F := fun W => Hid (B2 w W (thA t X) (miV x D c1 E c2 T c3))) (Lib.hid S0.out) ?_
  clear S0
  intro W S
  obtain ⟨m0, m1, m2, m3, m4, m5, m6, m7, m8⟩ := miV_cells S.out.mi
  go_upto_region 2 with (go_at_call 141; refine (HS.out _ (HG.out.below S.out.bel)).mono ?_; rintro e w2 ⟨⟨A, c, B, d, rfl⟩, hb⟩; have S2 := (S.out.below hb); dsimp only)
  refine at_code (F := fun W => Hid (B2 w W (thA t X) (miV x D c1 E c2 T c3)) ∧ Hid (Var W w2.heap.size #[.slice A np c, .slice B nr d] 36)) ⟨Lib.hid (S2.below ((Below.refl _ _).alloc (Nat.le_refl _) _)), Lib.hid (Var.new _ _ _)⟩ ?_
  clear S S2 hb m0 m1 m2 m3 m4 m5 m6 m7 m8 HS
  obtain ⟨K, hK⟩ : ∃ K, w2.heap.size = K := ⟨_, rfl⟩
  simp only [hK]
  clear hK
  rintro W ⟨S, HV⟩
  obtain ⟨m0, m1, m2, m3, m4, m5, m6, m7, m8⟩ := miV_cells S.out.mi
  rcases hw0 : decide (0 < wd) with _ | _
  · rw [hw0] at hR
    go_wp2_with (go_at_call 142; refine (HW.out _ (HG.out.below S.out.bel)).mono ?_; rintro e w3 ⟨rfl, hb⟩; have S3 := S.out.below hb)
    go_ret
    exact ⟨by rw [← hR]; rfl, S3.bel⟩
  rw [hw0] at hR
  have hnk : ((np : Int) == (k : Int)) = decide (np = k) := by rw [Bool.eq_iff_iff]; simp; omega
  rcases hk0 : decide (np = k) with _ | _
  all_goals rw [hk0] at hR hnk
  · go_wp2_with (go_at_call 142; refine (HW.out _ (HG.out.below S.out.bel)).mono ?_; rintro e w3 ⟨rfl, hb⟩; have S3 := S.out.below hb; obtain ⟨q0, q1⟩ := cells2 (var_keep HV.out hb))
    go_ret
    exact ⟨by rw [← hR]; rfl, S3.bel⟩
  rcases hm : Mc.within x.b ((t.mems : Int) - 1) with _ | _
  all_goals rw [hm] at hR
  · go_wp2_with (first
      | (go_at_call 142; refine (HW.out _ (HG.out.below S.out.bel)).mono ?_; rintro e w3 ⟨rfl, hb⟩; have S3 := S.out.below hb; obtain ⟨q0, q1⟩ := cells2 (var_keep HV.out hb); obtain ⟨n0, n1, n2, n3, n4, -⟩ := miV_cells S3.mi; obtain ⟨-, -, -, -, -, -, -, g14, -⟩ := thA_cells S3.th)
      | (go_at_call 24; refine (within_any _ _ _).mono ?_; rintro e w1 ⟨rfl, rfl⟩))
    go_ret
    exact ⟨by rw [← hR]; rfl, S3.bel⟩
  · have hn4 : decide (x.n ≤ 4294967295) = decide ((x.n : Int) ≤ 4294967295) := by congr 1; exact propext ⟨fun h => by omega, fun h => by omega⟩
    rw [hn4] at hR
    go_wp2_with (first
      | (go_at_call 142; refine (HW.out _ (HG.out.below S.out.bel)).mono ?_; rintro e w3 ⟨rfl, hb⟩; have S3 := S.out.below hb; obtain ⟨q0, q1⟩ := cells2 (var_keep HV.out hb); obtain ⟨n0, n1, n2, n3, n4, -⟩ := miV_cells S3.mi; obtain ⟨-, -, -, -, -, -, -, g14, -⟩ := thA_cells S3.th)
      | (go_at_call 24; refine (within_any _ _ _).mono ?_; rintro e w1 ⟨rfl, rfl⟩))
    go_ret
    exact ⟨by rw [← hR]; simp, S3.bel⟩
def Mc.namedW (t : Th) (x : Mi) : Wt :=
  if x.kind = 10 then ⟨1, 0, 0, false, Mc.inL x.a t.globals.length⟩
  else if x.kind = 11 then ⟨0, 1, 0, false, Mc.setOk t x⟩
  else if x.kind = 14 then ⟨1, 0, 0, false, Mc.inL x.a t.funcs.length⟩
  else if x.kind = 12 then Mc.callW t x
  else if x.kind = 13 then Mc.calliW t x
  else if x.kind = 16 then Mc.bulkW t x
  else Mc.tabW t x
set_option maxHeartbeats 8000000 in
set_option maxRecDepth 100000 in
theorem mnamed_any (t : Th) (hf : t.Few) (X : TX) (x : Mi) (hk : x.kind = 10 ∨ x.kind = 11 ∨ x.kind = 14 ∨ x.kind = 12 ∨ x.kind = 13 ∨ x.kind = 16 ∨ x.kind = 17) (D : Option Addr) (c1 : Nat) (E : Option Addr) (c2 : Nat) (T : Option Addr) (c3 : Nat) (S0 : Nat → Prop) (w : World) (h : ThRd S0 w t X) :
    Calls Tryz.prog 106 #[.agg (thA t X), .agg (miV x D c1 E c2 T c3)] w fun e w' => e = .returned (.agg (wtV (Mc.namedW t x))) ∧ Below w.heap.size w w' := by
  obtain ⟨R, hR⟩ : ∃ R, Mc.namedW t x = R := ⟨_, rfl⟩
  rw [hR]
  unfold Mc.namedW at hR
  have wt := wrap_pred hf.tb
  have wf := wrap_pred hf.fn
  have wg := wrap_pred hf.gl
  have hB0 := Lib.hid (B3.new w (thA t X) (miV x D c1 E c2 T c3))
  have HTy := Lib.hid (fun (i : Int) W (h : ThRd S0 W t X) => mtyp_any t hf X i S0 W h)
  have HBu := Lib.hid (fun W => mbulk_any t hf X x D c1 E c2 T c3 W)
  have HTa := Lib.hid (fun W => mtab_any t hf X x D c1 E c2 T c3 W)
  have HT := Lib.hid (h.on hB0.out.bel)
  have HTb := Lib.hid h.tb
  have hpl : (Mc.typLen t x.a).1.1 ≤ 17592186044416 := by
    unfold Mc.typLen
    rcases he : Mc.ent t.types x.a with _ | f
    · simp
    · obtain ⟨-, k, -, hk, hf2⟩ := Mc.ent_some he
      rw [← hf2]
      exact (hf.pl _ (List.getElem_mem hk)).1
  clear h
  go_enter Tryz.func106, Tryz.ntmps106
  go_upto_region 1 with fail
  refine at_code (F := fun W => Hid (B3 w W (thA t X) (miV x D c1 E c2 T c3)) ∧ Hid (ThRd S0 W t X)) ⟨Lib.hid hB0.out, HT⟩ ?_
  clear hB0 HT
  rintro W ⟨S, HT⟩
  obtain ⟨⟨g0, g1, g2, g3, g4, g5, g6, g7⟩, g8, g9, g10, g11, g12, g13, g14, g15⟩ := thA_cells S.out.th
  obtain ⟨m0, m1, m2, m3, m4, m5, m6, m7, m8⟩ := miV_cells S.out.mi
  obtain ⟨⟨r0, r1, r2, r3, r4⟩, z0, z1, z2, z3, z4⟩ := cells5 S.out.rs
  have hlt := S.out.rs.lt
  rcases hk with hk | hk | hk | hk | hk | hk | hk
  all_goals rw [hk] at hR m0
  · rw [if_pos rfl] at hR
    unfold Mc.inL at hR
    clear HTy HBu HTa HT
    go_wp2_with (go_at_call 24; refine (within_any _ _ _).mono ?_; rintro e w1 ⟨rfl, rfl⟩)
    refine bodyPost_ret (results_cell_row rfl _ _ (w.heap.size + 2) _ _ (0, 0) _ rfl (put5 S.out.rs _ _ _ _ _).1 Tryz.underlying130 rfl (by kernel_rfl)) rfl ?_
    exact ⟨by rw [← hR]; rfl, below_grown S.out.bel (put5 S.out.rs _ _ _ _ _).2 S.out.bel.size (by omega)⟩
  · rw [if_neg (by decide), if_pos rfl] at hR
    unfold Mc.setOk at hR
    clear HTy HBu HTa
    rcases he : Mc.ent t.globals x.a with _ | f
    · rw [he] at hR
      have hin : Mc.within x.a ((t.globals.length : Int) - 1) = false := Mc.ent_none he
      clear HT
      go_wp2_with (go_at_call 24; refine (within_any _ _ _).mono ?_; rintro e w1 ⟨rfl, rfl⟩)
      refine bodyPost_ret (results_cell_row rfl _ _ (w.heap.size + 2) _ _ (0, 0) _ rfl (put5 S.out.rs _ _ _ _ _).1 Tryz.underlying130 rfl (by kernel_rfl)) rfl ?_
      exact ⟨by rw [← hR]; rfl, below_grown S.out.bel (put5 S.out.rs _ _ _ _ _).2 S.out.bel.size (by omega)⟩
    · rw [he] at hR
      obtain ⟨hin, k, hka, hk2, hf2⟩ := Mc.ent_some he
      rw [hka] at m2 hin
      have hin : Mc.within (k : Int) ((t.globals.length : Int) - 1) = true := hin
      obtain ⟨g, o, ha, -, hg, hty⟩ := HT.out.gl.get hk2
      rw [hf2] at hty
      rw [ha] at g15
      obtain ⟨f0, f1⟩ := hty
      have x0 : (0 : Int) ≤ (k : Int) := by omega
      have x1 : (k : Int) < (t.globals.length : Int) := by omega
      clear HT
      go_wp2_with (go_at_call 24; refine (within_any _ _ _).mono ?_; rintro e w1 ⟨rfl, rfl⟩)
      refine bodyPost_ret (results_cell_row rfl _ _ (w.heap.size + 2) _ _ (0, 0) _ rfl (put5 S.out.rs _ _ _ _ _).1 Tryz.underlying130 rfl (by kernel_rfl)) rfl ?_
      exact ⟨by rw [← hR]; rfl, below_grown S.out.bel (put5 S.out.rs _ _ _ _ _).2 S.out.bel.size (by omega)⟩
  · rw [if_neg (by decide), if_neg (by decide), if_pos rfl] at hR
    unfold Mc.inL at hR
    clear HTy HBu HTa HT
    go_wp2_with (go_at_call 24; refine (within_any _ _ _).mono ?_; rintro e w1 ⟨rfl, rfl⟩)
    refine bodyPost_ret (results_cell_row rfl _ _ (w.heap.size + 2) _ _ (0, 0) _ rfl (put5 S.out.rs _ _ _ _ _).1 Tryz.underlying130 rfl (by kernel_rfl)) rfl ?_
    exact ⟨by rw [← hR]; rfl, below_grown S.out.bel (put5 S.out.rs _ _ _ _ _).2 S.out.bel.size (by omega)⟩
  · rw [if_neg (by decide), if_neg (by decide), if_neg (by decide), if_pos rfl] at hR
    unfold Mc.callW at hR
    clear HBu HTa
    rcases he : Mc.ent t.funcs x.a with _ | f
    · rw [he] at hR
      have hin : Mc.within x.a ((t.funcs.length : Int) - 1) = false := Mc.ent_none he
      clear HT HTy
      go_wp2_with (go_at_call 24; refine (within_any _ _ _).mono ?_; rintro e w1 ⟨rfl, rfl⟩)
      refine bodyPost_ret (results_cell_row rfl _ _ (w.heap.size + 2) _ _ (0, 0) _ rfl (put5 S.out.rs _ _ _ _ _).1 Tryz.underlying130 rfl (by kernel_rfl)) rfl ?_
      exact ⟨by rw [← hR]; rfl, below_grown S.out.bel (put5 S.out.rs _ _ _ _ _).2 S.out.bel.size (by omega)⟩
    · rw [he] at hR
      dsimp only at hR
      obtain ⟨hin, k, hka, hk2, hf2⟩ := Mc.ent_some he
      rw [hka] at m2 hin
      have hin : Mc.within (k : Int) ((t.funcs.length : Int) - 1) = true := hin
      obtain ⟨g, o, ha, -, hg, hty⟩ := HT.out.fn.get hk2
      rw [hf2] at hty
      rw [ha] at g12
      have f0 : W.cell? ⟨g, o + k * 1, none⟩ = some (.int .i64 f) := hty
      rw [Nat.mul_one] at f0
      have x0 : (0 : Int) ≤ (k : Int) := by omega
      have x1 : (k : Int) < (t.funcs.length : Int) := by omega
      have HTf := Lib.hid (fun W h => HTy.out f W h)
      obtain ⟨⟨⟨np, nr⟩, tb⟩, htl⟩ : ∃ y, Mc.typLen t f = y := ⟨_, rfl⟩
      rw [htl] at HTf hR
      dsimp only at hR
      clear HTy htl he hty hf2
      unfold thA at HTf
      rw [ha] at HTf
      go_upto_region 11 with (go_at_call 24; refine (within_any _ _ _).mono ?_; rintro e w1 ⟨rfl, rfl⟩)
      go_cut [5, 6] from 60 to 71 (fun s5 s6 wx => ∃ K5 A c B d, s5 = .pointer (some ⟨K5, 0, none⟩) ∧ s6 = .bool tb ∧ Var wx K5 #[.slice A np c, .slice B nr d] 36 ∧ Below W.heap.size W wx)
      case first =>
        have SS : (fun W' => W'.cell? ⟨w.heap.size, 0, none⟩ = some (.slice X.TA t.types.length X.tc) ∧ W'.cell? ⟨w.heap.size, 1, none⟩ = some (X.v1) ∧ W'.cell? ⟨w.heap.size, 2, none⟩ = some (X.v2) ∧ W'.cell? ⟨w.heap.size, 3, none⟩ = some (X.v3) ∧ W'.cell? ⟨w.heap.size, 4, none⟩ = some (X.v4) ∧ W'.cell? ⟨w.heap.size, 5, none⟩ = some (X.v5) ∧ W'.cell? ⟨w.heap.size, 6, none⟩ = some (X.v6) ∧ W'.cell? ⟨w.heap.size, 7, none⟩ = some (X.v7) ∧ W'.cell? ⟨w.heap.size, 8, none⟩ = some (X.v8) ∧ W'.cell? ⟨w.heap.size, 9, none⟩ = some (.slice X.EA t.elems X.ec) ∧ W'.cell? ⟨w.heap.size, 10, none⟩ = some (.slice X.DA t.datas X.dc) ∧ W'.cell? ⟨w.heap.size, 11, none⟩ = some (X.v11) ∧ W'.cell? ⟨w.heap.size, 12, none⟩ = some (.slice (some ⟨g, o, none⟩) t.funcs.length X.fc) ∧ W'.cell? ⟨w.heap.size, 13, none⟩ = some (.slice X.BA t.tables.length X.bc) ∧ W'.cell? ⟨w.heap.size, 14, none⟩ = some (.int .i64 (t.mems : Int)) ∧ W'.cell? ⟨w.heap.size, 15, none⟩ = some (.slice X.GA t.globals.length X.gc) ∧ W'.cell? ⟨w.heap.size + 1, 2, none⟩ = some (.int .i64 (k : Int)) ∧ W'.cell? ⟨g, o + k, none⟩ = some (.int .i64 f)) (World.drew W) := ⟨g0, g1, g2, g3, g4, g5, g6, g7, g8, g9, g10, g11, g12, g13, g14, g15, m2, f0⟩
        dsimp only at SS
        refine wp_region_held_drew (S := (fun W' => W'.cell? ⟨w.heap.size, 0, none⟩ = some (.slice X.TA t.types.length X.tc) ∧ W'.cell? ⟨w.heap.size, 1, none⟩ = some (X.v1) ∧ W'.cell? ⟨w.heap.size, 2, none⟩ = some (X.v2) ∧ W'.cell? ⟨w.heap.size, 3, none⟩ = some (X.v3) ∧ W'.cell? ⟨w.heap.size, 4, none⟩ = some (X.v4) ∧ W'.cell? ⟨w.heap.size, 5, none⟩ = some (X.v5) ∧ W'.cell? ⟨w.heap.size, 6, none⟩ = some (X.v6) ∧ W'.cell? ⟨w.heap.size, 7, none⟩ = some (X.v7) ∧ W'.cell? ⟨w.heap.size, 8, none⟩ = some (X.v8) ∧ W'.cell? ⟨w.heap.size, 9, none⟩ = some (.slice X.EA t.elems X.ec) ∧ W'.cell? ⟨w.heap.size, 10, none⟩ = some (.slice X.DA t.datas X.dc) ∧ W'.cell? ⟨w.heap.size, 11, none⟩ = some (X.v11) ∧ W'.cell? ⟨w.heap.size, 12, none⟩ = some (.slice (some ⟨g, o, none⟩) t.funcs.length X.fc) ∧ W'.cell? ⟨w.heap.size, 13, none⟩ = some (.slice X.BA t.tables.length X.bc) ∧ W'.cell? ⟨w.heap.size, 14, none⟩ = some (.int .i64 (t.mems : Int)) ∧ W'.cell? ⟨w.heap.size, 15, none⟩ = some (.slice X.GA t.globals.length X.gc) ∧ W'.cell? ⟨w.heap.size + 1, 2, none⟩ = some (.int .i64 (k : Int)) ∧ W'.cell? ⟨g, o + k, none⟩ = some (.int .i64 f))) (by kernel_rfl) ?_ (fun hHeld0 => ?_)
        · first | assumption | go_keep
        refine tj (i := 0) rfl ?_; (try simp only [zS, zN, zT, zC, zZ])
        refine tj (i := 1) rfl ?_; (try simp only [zS, zN, zT, zC, zZ])
        refine tj (i := 2) rfl ?_; (try simp only [zS, zN, zT, zC, zZ])
        refine tj (i := 3) rfl ?_; (try simp only [zS, zN, zT, zC, zZ])
        refine tj (i := 4) rfl ?_; (try simp only [zS, zN, zT, zC, zZ])
        refine tj (i := 5) rfl ?_; (try simp only [zS, zN, zT, zC, zZ])
        refine tj (i := 6) rfl ?_; (try simp only [zS, zN, zT, zC, zZ])
        refine wpAnyH_ready (rs := [7, 11]) (by kernel_rfl) (by simp) ?_
        refine (AllReadyH.cons rfl (fun K hK => ?_) (AllReadyH.cons rfl (fun K hK => ?_) AllReadyH.nil))
        · skip
          go_simp
          (refine (HTf.out _ (HT.out.on (below_drewN W 1))).mono ?_; rintro e w3 ⟨⟨A, c, B, d, rfl⟩, hb⟩; have BC := (below_drewN W 1).trans (hb.mono (Nat.le_refl _)); have kp := Below.keep BC (fun _ => True); have d0 := kp _ _ trivial g0; have d1 := kp _ _ trivial g1; have d2 := kp _ _ trivial g2; have d3 := kp _ _ trivial g3; have d4 := kp _ _ trivial g4; have d5 := kp _ _ trivial g5; have d6 := kp _ _ trivial g6; have d7 := kp _ _ trivial g7; have d8 := kp _ _ trivial g8; have d9 := kp _ _ trivial g9; have d10 := kp _ _ trivial g10; have d11 := kp _ _ trivial g11; have d12 := kp _ _ trivial g12; have d13 := kp _ _ trivial g13; have d14 := kp _ _ trivial g14; have d15 := kp _ _ trivial g15; have d16 := kp _ _ trivial m2; have d17 := kp _ _ trivial f0; have SSc : (fun W' => W'.cell? ⟨w.heap.size, 0, none⟩ = some (.slice X.TA t.types.length X.tc) ∧ W'.cell? ⟨w.heap.size, 1, none⟩ = some (X.v1) ∧ W'.cell? ⟨w.heap.size, 2, none⟩ = some (X.v2) ∧ W'.cell? ⟨w.heap.size, 3, none⟩ = some (X.v3) ∧ W'.cell? ⟨w.heap.size, 4, none⟩ = some (X.v4) ∧ W'.cell? ⟨w.heap.size, 5, none⟩ = some (X.v5) ∧ W'.cell? ⟨w.heap.size, 6, none⟩ = some (X.v6) ∧ W'.cell? ⟨w.heap.size, 7, none⟩ = some (X.v7) ∧ W'.cell? ⟨w.heap.size, 8, none⟩ = some (X.v8) ∧ W'.cell? ⟨w.heap.size, 9, none⟩ = some (.slice X.EA t.elems X.ec) ∧ W'.cell? ⟨w.heap.size, 10, none⟩ = some (.slice X.DA t.datas X.dc) ∧ W'.cell? ⟨w.heap.size, 11, none⟩ = some (X.v11) ∧ W'.cell? ⟨w.heap.size, 12, none⟩ = some (.slice (some ⟨g, o, none⟩) t.funcs.length X.fc) ∧ W'.cell? ⟨w.heap.size, 13, none⟩ = some (.slice X.BA t.tables.length X.bc) ∧ W'.cell? ⟨w.heap.size, 14, none⟩ = some (.int .i64 (t.mems : Int)) ∧ W'.cell? ⟨w.heap.size, 15, none⟩ = some (.slice X.GA t.globals.length X.gc) ∧ W'.cell? ⟨w.heap.size + 1, 2, none⟩ = some (.int .i64 (k : Int)) ∧ W'.cell? ⟨g, o + k, none⟩ = some (.int .i64 f)) w3 := ⟨d0, d1, d2, d3, d4, d5, d6, d7, d8, d9, d10, d11, d12, d13, d14, d15, d16, d17⟩; dsimp only at SSc)
          (try dsimp only)
          refine hK.out _ _ ?_ (fun hHeld1 => ?_)
          · first | trivial | ((try dsimp only); first | assumption | trivial | go_keep)
          clear hK K hHeld0
          (try simp only [zS, zN, zT, zC, zZ])
          refine tj (i := 8) rfl ?_; (try simp only [zS, zN, zT, zC, zZ])
          refine tj (i := 9) rfl ?_; (try simp only [zS, zN, zT, zC, zZ])
          refine tj (i := 10) rfl ?_; (try simp only [zS, zN, zT, zC, zZ])
          refine wpAnyH_ready (rs := [11]) (by kernel_rfl) (by simp) ?_
          refine (AllReadyH.cons rfl (fun K hK => ?_) AllReadyH.nil)
          go_simp
          (have BA := BC.trans (((Below.refl w3.heap.size w3).alloc (Nat.le_refl _) (.cells #[.slice none 0 0, .slice none 0 0] 36)).mono BC.size); have VA := Var.new w3 #[.slice none 0 0, .slice none 0 0] 36; have kp2 := Below.keep BA (fun _ => True); have e0 := kp2 _ _ trivial g0; have e1 := kp2 _ _ trivial g1; have e2 := kp2 _ _ trivial g2; have e3 := kp2 _ _ trivial g3; have e4 := kp2 _ _ trivial g4; have e5 := kp2 _ _ trivial g5; have e6 := kp2 _ _ trivial g6; have e7 := kp2 _ _ trivial g7; have e8 := kp2 _ _ trivial g8; have e9 := kp2 _ _ trivial g9; have e10 := kp2 _ _ trivial g10; have e11 := kp2 _ _ trivial g11; have e12 := kp2 _ _ trivial g12; have e13 := kp2 _ _ trivial g13; have e14 := kp2 _ _ trivial g14; have e15 := kp2 _ _ trivial g15; have e16 := kp2 _ _ trivial m2; have e17 := kp2 _ _ trivial f0; have SSa : (fun W' => W'.cell? ⟨w.heap.size, 0, none⟩ = some (.slice X.TA t.types.length X.tc) ∧ W'.cell? ⟨w.heap.size, 1, none⟩ = some (X.v1) ∧ W'.cell? ⟨w.heap.size, 2, none⟩ = some (X.v2) ∧ W'.cell? ⟨w.heap.size, 3, none⟩ = some (X.v3) ∧ W'.cell? ⟨w.heap.size, 4, none⟩ = some (X.v4) ∧ W'.cell? ⟨w.heap.size, 5, none⟩ = some (X.v5) ∧ W'.cell? ⟨w.heap.size, 6, none⟩ = some (X.v6) ∧ W'.cell? ⟨w.heap.size, 7, none⟩ = some (X.v7) ∧ W'.cell? ⟨w.heap.size, 8, none⟩ = some (X.v8) ∧ W'.cell? ⟨w.heap.size, 9, none⟩ = some (.slice X.EA t.elems X.ec) ∧ W'.cell? ⟨w.heap.size, 10, none⟩ = some (.slice X.DA t.datas X.dc) ∧ W'.cell? ⟨w.heap.size, 11, none⟩ = some (X.v11) ∧ W'.cell? ⟨w.heap.size, 12, none⟩ = some (.slice (some ⟨g, o, none⟩) t.funcs.length X.fc) ∧ W'.cell? ⟨w.heap.size, 13, none⟩ = some (.slice X.BA t.tables.length X.bc) ∧ W'.cell? ⟨w.heap.size, 14, none⟩ = some (.int .i64 (t.mems : Int)) ∧ W'.cell? ⟨w.heap.size, 15, none⟩ = some (.slice X.GA t.globals.length X.gc) ∧ W'.cell? ⟨w.heap.size + 1, 2, none⟩ = some (.int .i64 (k : Int)) ∧ W'.cell? ⟨g, o + k, none⟩ = some (.int .i64 f)) (w3.alloc (.cells #[.slice none 0 0, .slice none 0 0] 36)) := ⟨e0, e1, e2, e3, e4, e5, e6, e7, e8, e9, e10, e11, e12, e13, e14, e15, e16, e17⟩; dsimp only at SSa)
          (try dsimp only)
          refine hK.out _ _ ?_ (fun hHeld2 => ?_)
          · first | trivial | ((try dsimp only); first | assumption | trivial | go_keep)
          clear hK K hHeld1
          (try simp only [zS, zN, zT, zC, zZ])
          refine wpAnyH_ready (rs := [12]) (by kernel_rfl) (by simp) ?_
          refine (AllReadyH.cons rfl (fun K hK => ?_) AllReadyH.nil)
          (rw [if_pos (by rfl)]; refine wp_store_row 36 (.tmp 5) (.tmp 70) rfl w3.heap.size #[.slice A np c, .slice B nr d] rfl rfl 36 #[.slice none 0 0, .slice none 0 0] VA info_func2 rfl (by simp [Value.oneCell']) ?_; have VR := setRow_heap (w3.alloc (.cells #[.slice none 0 0, .slice none 0 0] 36)) w3.heap.size #[.slice none 0 0, .slice none 0 0] #[.slice A np c, .slice B nr d] _ (0, 0) VA; have gR := setRow_grown (w3.alloc (.cells #[.slice none 0 0, .slice none 0 0] 36)) w3.heap.size #[.slice A np c, .slice B nr d]; have hs3 := BC.size; have hdr : (World.drew W).heap.size = W.heap.size := rfl; have SSr : (fun W' => W'.cell? ⟨w.heap.size, 0, none⟩ = some (.slice X.TA t.types.length X.tc) ∧ W'.cell? ⟨w.heap.size, 1, none⟩ = some (X.v1) ∧ W'.cell? ⟨w.heap.size, 2, none⟩ = some (X.v2) ∧ W'.cell? ⟨w.heap.size, 3, none⟩ = some (X.v3) ∧ W'.cell? ⟨w.heap.size, 4, none⟩ = some (X.v4) ∧ W'.cell? ⟨w.heap.size, 5, none⟩ = some (X.v5) ∧ W'.cell? ⟨w.heap.size, 6, none⟩ = some (X.v6) ∧ W'.cell? ⟨w.heap.size, 7, none⟩ = some (X.v7) ∧ W'.cell? ⟨w.heap.size, 8, none⟩ = some (X.v8) ∧ W'.cell? ⟨w.heap.size, 9, none⟩ = some (.slice X.EA t.elems X.ec) ∧ W'.cell? ⟨w.heap.size, 10, none⟩ = some (.slice X.DA t.datas X.dc) ∧ W'.cell? ⟨w.heap.size, 11, none⟩ = some (X.v11) ∧ W'.cell? ⟨w.heap.size, 12, none⟩ = some (.slice (some ⟨g, o, none⟩) t.funcs.length X.fc) ∧ W'.cell? ⟨w.heap.size, 13, none⟩ = some (.slice X.BA t.tables.length X.bc) ∧ W'.cell? ⟨w.heap.size, 14, none⟩ = some (.int .i64 (t.mems : Int)) ∧ W'.cell? ⟨w.heap.size, 15, none⟩ = some (.slice X.GA t.globals.length X.gc) ∧ W'.cell? ⟨w.heap.size + 1, 2, none⟩ = some (.int .i64 (k : Int)) ∧ W'.cell? ⟨g, o + k, none⟩ = some (.int .i64 f)) ((w3.alloc (.cells #[.slice none 0 0, .slice none 0 0] 36)).setRow w3.heap.size #[.slice A np c, .slice B nr d]) := ⟨gR.cell e0 (by intro e; injection e with e; dsimp only at e; omega), gR.cell e1 (by intro e; injection e with e; dsimp only at e; omega), gR.cell e2 (by intro e; injection e with e; dsimp only at e; omega), gR.cell e3 (by intro e; injection e with e; dsimp only at e; omega), gR.cell e4 (by intro e; injection e with e; dsimp only at e; omega), gR.cell e5 (by intro e; injection e with e; dsimp only at e; omega), gR.cell e6 (by intro e; injection e with e; dsimp only at e; omega), gR.cell e7 (by intro e; injection e with e; dsimp only at e; omega), gR.cell e8 (by intro e; injection e with e; dsimp only at e; omega), gR.cell e9 (by intro e; injection e with e; dsimp only at e; omega), gR.cell e10 (by intro e; injection e with e; dsimp only at e; omega), gR.cell e11 (by intro e; injection e with e; dsimp only at e; omega), gR.cell e12 (by intro e; injection e with e; dsimp only at e; omega), gR.cell e13 (by intro e; injection e with e; dsimp only at e; omega), gR.cell e14 (by intro e; injection e with e; dsimp only at e; omega), gR.cell e15 (by intro e; injection e with e; dsimp only at e; omega), gR.cell e16 (by intro e; injection e with e; dsimp only at e; omega), gR.cell e17 (by intro e; injection e with e; dsimp only at e; omega)⟩; dsimp only at SSr)
          (try dsimp only)
          refine hK.out _ _ ?_ (fun hHeld3 => ?_)
          · first | trivial | ((try dsimp only); first | assumption | trivial | go_keep)
          clear hK K hHeld2
          (try simp only [zS, zN, zT, zC, zZ])
          refine tj (i := 13) rfl ?_; (try simp only [zS, zN, zT, zC, zZ])
          refine wpAnyH_done (by kernel_rfl) ?_ _
          (try dsimp only)
          repeat (first | go_values | go_skip | go_guarded | go_step | go_upon)
          go_wp2_with fail
          go_meet
          exact ⟨_, A, c, B, d, rfl, rfl, VR, below_grown BA gR BA.size BC.size⟩
        · skip
          go_simp
          (have BA := (below_drewN W 1).trans (((Below.refl (World.drew W).heap.size (World.drew W)).alloc (Nat.le_refl _) (.cells #[.slice none 0 0, .slice none 0 0] 36)).mono (Nat.le_refl _)); have VA := Var.new (World.drew W) #[.slice none 0 0, .slice none 0 0] 36; have kp := Below.keep BA (fun _ => True); have d0 := kp _ _ trivial g0; have d1 := kp _ _ trivial g1; have d2 := kp _ _ trivial g2; have d3 := kp _ _ trivial g3; have d4 := kp _ _ trivial g4; have d5 := kp _ _ trivial g5; have d6 := kp _ _ trivial g6; have d7 := kp _ _ trivial g7; have d8 := kp _ _ trivial g8; have d9 := kp _ _ trivial g9; have d10 := kp _ _ trivial g10; have d11 := kp _ _ trivial g11; have d12 := kp _ _ trivial g12; have d13 := kp _ _ trivial g13; have d14 := kp _ _ trivial g14; have d15 := kp _ _ trivial g15; have d16 := kp _ _ trivial m2; have d17 := kp _ _ trivial f0; have SSa : (fun W' => W'.cell? ⟨w.heap.size, 0, none⟩ = some (.slice X.TA t.types.length X.tc) ∧ W'.cell? ⟨w.heap.size, 1, none⟩ = some (X.v1) ∧ W'.cell? ⟨w.heap.size, 2, none⟩ = some (X.v2) ∧ W'.cell? ⟨w.heap.size, 3, none⟩ = some (X.v3) ∧ W'.cell? ⟨w.heap.size, 4, none⟩ = some (X.v4) ∧ W'.cell? ⟨w.heap.size, 5, none⟩ = some (X.v5) ∧ W'.cell? ⟨w.heap.size, 6, none⟩ = some (X.v6) ∧ W'.cell? ⟨w.heap.size, 7, none⟩ = some (X.v7) ∧ W'.cell? ⟨w.heap.size, 8, none⟩ = some (X.v8) ∧ W'.cell? ⟨w.heap.size, 9, none⟩ = some (.slice X.EA t.elems X.ec) ∧ W'.cell? ⟨w.heap.size, 10, none⟩ = some (.slice X.DA t.datas X.dc) ∧ W'.cell? ⟨w.heap.size, 11, none⟩ = some (X.v11) ∧ W'.cell? ⟨w.heap.size, 12, none⟩ = some (.slice (some ⟨g, o, none⟩) t.funcs.length X.fc) ∧ W'.cell? ⟨w.heap.size, 13, none⟩ = some (.slice X.BA t.tables.length X.bc) ∧ W'.cell? ⟨w.heap.size, 14, none⟩ = some (.int .i64 (t.mems : Int)) ∧ W'.cell? ⟨w.heap.size, 15, none⟩ = some (.slice X.GA t.globals.length X.gc) ∧ W'.cell? ⟨w.heap.size + 1, 2, none⟩ = some (.int .i64 (k : Int)) ∧ W'.cell? ⟨g, o + k, none⟩ = some (.int .i64 f)) ((World.drew W).alloc (.cells #[.slice none 0 0, .slice none 0 0] 36)) := ⟨d0, d1, d2, d3, d4, d5, d6, d7, d8, d9, d10, d11, d12, d13, d14, d15, d16, d17⟩; dsimp only at SSa)
          (try dsimp only)
          refine hK.out _ _ ?_ (fun hHeld1 => ?_)
          · first | trivial | ((try dsimp only); first | assumption | trivial | go_keep)
          clear hK K hHeld0
          (try simp only [zS, zN, zT, zC, zZ])
          refine wpAnyH_ready (rs := [7]) (by kernel_rfl) (by simp) ?_
          refine (AllReadyH.cons rfl (fun K hK => ?_) AllReadyH.nil)
          go_simp
          (refine (HTf.out _ (HT.out.on BA)).mono ?_; rintro e w3 ⟨⟨A, c, B, d, rfl⟩, hb⟩; have BC := BA.trans (hb.mono BA.size); have VC := var_keep VA hb; have kp2 := Below.keep BC (fun _ => True); have e0 := kp2 _ _ trivial g0; have e1 := kp2 _ _ trivial g1; have e2 := kp2 _ _ trivial g2; have e3 := kp2 _ _ trivial g3; have e4 := kp2 _ _ trivial g4; have e5 := kp2 _ _ trivial g5; have e6 := kp2 _ _ trivial g6; have e7 := kp2 _ _ trivial g7; have e8 := kp2 _ _ trivial g8; have e9 := kp2 _ _ trivial g9; have e10 := kp2 _ _ trivial g10; have e11 := kp2 _ _ trivial g11; have e12 := kp2 _ _ trivial g12; have e13 := kp2 _ _ trivial g13; have e14 := kp2 _ _ trivial g14; have e15 := kp2 _ _ trivial g15; have e16 := kp2 _ _ trivial m2; have e17 := kp2 _ _ trivial f0; have SSc : (fun W' => W'.cell? ⟨w.heap.size, 0, none⟩ = some (.slice X.TA t.types.length X.tc) ∧ W'.cell? ⟨w.heap.size, 1, none⟩ = some (X.v1) ∧ W'.cell? ⟨w.heap.size, 2, none⟩ = some (X.v2) ∧ W'.cell? ⟨w.heap.size, 3, none⟩ = some (X.v3) ∧ W'.cell? ⟨w.heap.size, 4, none⟩ = some (X.v4) ∧ W'.cell? ⟨w.heap.size, 5, none⟩ = some (X.v5) ∧ W'.cell? ⟨w.heap.size, 6, none⟩ = some (X.v6) ∧ W'.cell? ⟨w.heap.size, 7, none⟩ = some (X.v7) ∧ W'.cell? ⟨w.heap.size, 8, none⟩ = some (X.v8) ∧ W'.cell? ⟨w.heap.size, 9, none⟩ = some (.slice X.EA t.elems X.ec) ∧ W'.cell? ⟨w.heap.size, 10, none⟩ = some (.slice X.DA t.datas X.dc) ∧ W'.cell? ⟨w.heap.size, 11, none⟩ = some (X.v11) ∧ W'.cell? ⟨w.heap.size, 12, none⟩ = some (.slice (some ⟨g, o, none⟩) t.funcs.length X.fc) ∧ W'.cell? ⟨w.heap.size, 13, none⟩ = some (.slice X.BA t.tables.length X.bc) ∧ W'.cell? ⟨w.heap.size, 14, none⟩ = some (.int .i64 (t.mems : Int)) ∧ W'.cell? ⟨w.heap.size, 15, none⟩ = some (.slice X.GA t.globals.length X.gc) ∧ W'.cell? ⟨w.heap.size + 1, 2, none⟩ = some (.int .i64 (k : Int)) ∧ W'.cell? ⟨g, o + k, none⟩ = some (.int .i64 f)) w3 := ⟨e0, e1, e2, e3, e4, e5, e6, e7, e8, e9, e10, e11, e12, e13, e14, e15, e16, e17⟩; dsimp only at SSc)
          (try dsimp only)
          refine hK.out _ _ ?_ (fun hHeld2 => ?_)
          · first | trivial | ((try dsimp only); first | assumption | trivial | go_keep)
          clear hK K hHeld1
          (try simp only [zS, zN, zT, zC, zZ])
          refine tj (i := 8) rfl ?_; (try simp only [zS, zN, zT, zC, zZ])
          refine tj (i := 9) rfl ?_; (try simp only [zS, zN, zT, zC, zZ])
          refine tj (i := 10) rfl ?_; (try simp only [zS, zN, zT, zC, zZ])
          refine wpAnyH_ready (rs := [12]) (by kernel_rfl) (by simp) ?_
          refine (AllReadyH.cons rfl (fun K hK => ?_) AllReadyH.nil)
          (rw [if_pos (by rfl)]; refine wp_store_row 36 (.tmp 5) (.tmp 70) rfl (World.drew W).heap.size #[.slice A np c, .slice B nr d] rfl rfl 36 #[.slice none 0 0, .slice none 0 0] VC info_func2 rfl (by simp [Value.oneCell']) ?_; have VR := setRow_heap w3 (World.drew W).heap.size #[.slice none 0 0, .slice none 0 0] #[.slice A np c, .slice B nr d] _ (0, 0) VC; have gR := setRow_grown w3 (World.drew W).heap.size #[.slice A np c, .slice B nr d]; have hs3 := BC.size; have hdr : (World.drew W).heap.size = W.heap.size := rfl; have SSr : (fun W' => W'.cell? ⟨w.heap.size, 0, none⟩ = some (.slice X.TA t.types.length X.tc) ∧ W'.cell? ⟨w.heap.size, 1, none⟩ = some (X.v1) ∧ W'.cell? ⟨w.heap.size, 2, none⟩ = some (X.v2) ∧ W'.cell? ⟨w.heap.size, 3, none⟩ = some (X.v3) ∧ W'.cell? ⟨w.heap.size, 4, none⟩ = some (X.v4) ∧ W'.cell? ⟨w.heap.size, 5, none⟩ = some (X.v5) ∧ W'.cell? ⟨w.heap.size, 6, none⟩ = some (X.v6) ∧ W'.cell? ⟨w.heap.size, 7, none⟩ = some (X.v7) ∧ W'.cell? ⟨w.heap.size, 8, none⟩ = some (X.v8) ∧ W'.cell? ⟨w.heap.size, 9, none⟩ = some (.slice X.EA t.elems X.ec) ∧ W'.cell? ⟨w.heap.size, 10, none⟩ = some (.slice X.DA t.datas X.dc) ∧ W'.cell? ⟨w.heap.size, 11, none⟩ = some (X.v11) ∧ W'.cell? ⟨w.heap.size, 12, none⟩ = some (.slice (some ⟨g, o, none⟩) t.funcs.length X.fc) ∧ W'.cell? ⟨w.heap.size, 13, none⟩ = some (.slice X.BA t.tables.length X.bc) ∧ W'.cell? ⟨w.heap.size, 14, none⟩ = some (.int .i64 (t.mems : Int)) ∧ W'.cell? ⟨w.heap.size, 15, none⟩ = some (.slice X.GA t.globals.length X.gc) ∧ W'.cell? ⟨w.heap.size + 1, 2, none⟩ = some (.int .i64 (k : Int)) ∧ W'.cell? ⟨g, o + k, none⟩ = some (.int .i64 f)) (w3.setRow (World.drew W).heap.size #[.slice A np c, .slice B nr d]) := ⟨gR.cell e0 (by intro e; injection e with e; dsimp only at e; omega), gR.cell e1 (by intro e; injection e with e; dsimp only at e; omega), gR.cell e2 (by intro e; injection e with e; dsimp only at e; omega), gR.cell e3 (by intro e; injection e with e; dsimp only at e; omega), gR.cell e4 (by intro e; injection e with e; dsimp only at e; omega), gR.cell e5 (by intro e; injection e with e; dsimp only at e; omega), gR.cell e6 (by intro e; injection e with e; dsimp only at e; omega), gR.cell e7 (by intro e; injection e with e; dsimp only at e; omega), gR.cell e8 (by intro e; injection e with e; dsimp only at e; omega), gR.cell e9 (by intro e; injection e with e; dsimp only at e; omega), gR.cell e10 (by intro e; injection e with e; dsimp only at e; omega), gR.cell e11 (by intro e; injection e with e; dsimp only at e; omega), gR.cell e12 (by intro e; injection e with e; dsimp only at e; omega), gR.cell e13 (by intro e; injection e with e; dsimp only at e; omega), gR.cell e14 (by intro e; injection e with e; dsimp only at e; omega), gR.cell e15 (by intro e; injection e with e; dsimp only at e; omega), gR.cell e16 (by intro e; injection e with e; dsimp only at e; omega), gR.cell e17 (by intro e; injection e with e; dsimp only at e; omega)⟩; dsimp only at SSr)
          (try dsimp only)
          refine hK.out _ _ ?_ (fun hHeld3 => ?_)
          · first | trivial | ((try dsimp only); first | assumption | trivial | go_keep)
          clear hK K hHeld2
          (try simp only [zS, zN, zT, zC, zZ])
          refine tj (i := 13) rfl ?_; (try simp only [zS, zN, zT, zC, zZ])
          refine wpAnyH_done (by kernel_rfl) ?_ _
          (try dsimp only)
          repeat (first | go_values | go_skip | go_guarded | go_step | go_upon)
          go_wp2_with fail
          go_meet
          exact ⟨_, A, c, B, d, rfl, rfl, VR, below_grown BC gR BC.size (Nat.le_refl _)⟩
      case rest =>
      obtain ⟨K5, A, c, B, d, rfl, rfl, V5, BW⟩ := hcut
      have S := Lib.hid (S.out.below BW)
      clear g0 g1 g2 g3 g4 g5 g6 g7 g8 g9 g10 g11 g12 g13 g14 g15 m0 m1 m2 m3 m4 m5 m6 m7 m8 r0 r1 r2 r3 r4 z0 z1 z2 z3 z4 hlt f0
      obtain ⟨q0, q1⟩ := cells2 V5
      obtain ⟨⟨r0, r1, r2, r3, r4⟩, z0, z1, z2, z3, z4⟩ := cells5 S.out.rs
      have hlt := S.out.rs.lt
      go_wp2_with fail
      refine bodyPost_ret (results_cell_row rfl _ _ (w.heap.size + 2) _ _ (0, 0) _ rfl (put5 S.out.rs _ _ _ _ _).1 Tryz.underlying130 rfl (by kernel_rfl)) rfl ?_
      exact ⟨by rw [← hR]; rfl, below_grown S.out.bel (put5 S.out.rs _ _ _ _ _).2 S.out.bel.size (by omega)⟩
  · rw [if_neg (by decide), if_neg (by decide), if_neg (by decide), if_neg (by decide), if_pos rfl] at hR
    unfold Mc.calliW at hR
    clear HBu HTa
    have HTf := Lib.hid (fun W h => HTy.out x.a W h)
    obtain ⟨⟨⟨np, nr⟩, tb⟩, htl⟩ : ∃ y, Mc.typLen t x.a = y := ⟨_, rfl⟩
    rw [htl] at HTf hR hpl
    dsimp only at hR hpl
    clear HTy htl
    unfold thA at HTf
    have hwn : IntKind.i64.wrap ((np : Int) + 1) = (np : Int) + 1 := by rw [IntKind.wrap_i64]; omega
    go_upto_region 15 with (go_at_call 144; refine (HTf.out _ HT.out).mono ?_; rintro e w3 ⟨⟨A, c, B, d, rfl⟩, hb⟩; have S3 := S.out.below hb; have HT3 := HT.out.on hb; dsimp only)
    have ha3 := (Below.refl w3.heap.size w3).alloc (Nat.le_refl _) (.cells #[.slice A np c, .slice B nr d] 36)
    have hl3 : w.heap.size + 2 < w3.heap.size := S3.rs.lt
    refine at_code (F := fun W => Hid (B3 w W (thA t X) (miV x D c1 E c2 T c3)) ∧ Hid (ThRd S0 W t X) ∧ Hid (Var W w3.heap.size #[.slice A np c, .slice B nr d] 36)) ⟨Lib.hid (S3.below ha3), Lib.hid (HT3.on ha3), Lib.hid (Var.new _ _ _)⟩ ?_
    clear S S3 HT HT3 ha3 hb g0 g1 g2 g3 g4 g5 g6 g7 g8 g9 g10 g11 g12 g13 g14 g15 m0 m1 m2 m3 m4 m5 m6 m7 m8 r0 r1 r2 r3 r4 z0 z1 z2 z3 z4 hlt HTf
    obtain ⟨K5, hK5⟩ : ∃ K, w3.heap.size = K := ⟨_, rfl⟩
    rw [hK5] at hl3
    simp only [hK5]
    clear hK5
    rintro W ⟨S, HT, HV5⟩
    obtain ⟨-, -, -, -, -, -, g13, -⟩ := thA_cells S.out.th
    obtain ⟨-, -, -, m3, -⟩ := miV_cells S.out.mi
    obtain ⟨q0, q1⟩ := cells2 HV5.out
    have hlt5 := HV5.out.lt
    have VRs : (World.drew W).heap[w.heap.size + 2]? = some (.cells #[.int .i64 0, .int .i64 0, .int .i64 0, .bool false, .bool false] 130 (0, 0)) := S.out.rs
    rcases tb with _ | _
    · skip
      have SS : (fun W' => W'.cell? ⟨K5, 0, none⟩ = some (.slice A np c) ∧ W'.cell? ⟨K5, 1, none⟩ = some (.slice B nr d) ∧ W'.cell? ⟨w.heap.size + 1, 3, none⟩ = some (.int .i64 x.b) ∧ W'.cell? ⟨w.heap.size, 13, none⟩ = some (.slice X.BA t.tables.length X.bc)) (World.drew W) := ⟨q0, q1, m3, g13⟩
      dsimp only at SS
      have SSc := SS
      obtain ⟨t_0, t_1, t_2, t_3⟩ := SSc
      refine wp_region_held_drew (S := (fun W' => W'.cell? ⟨K5, 0, none⟩ = some (.slice A np c) ∧ W'.cell? ⟨K5, 1, none⟩ = some (.slice B nr d) ∧ W'.cell? ⟨w.heap.size + 1, 3, none⟩ = some (.int .i64 x.b) ∧ W'.cell? ⟨w.heap.size, 13, none⟩ = some (.slice X.BA t.tables.length X.bc))) (by kernel_rfl) ?_ (fun hHeld0 => ?_)
      · first | assumption | go_keep
      refine tj (i := 0) rfl ?_; (try simp only [zS, zN, zT, zC, zZ])
      refine tj (i := 1) rfl ?_; (try simp only [zS, zN, zT, zC, zZ])
      refine tj (i := 2) rfl ?_; (try simp only [zS, zN, zT, zC, zZ])
      refine tj (i := 3) rfl ?_; (try simp only [zS, zN, zT, zC, zZ])
      refine tj (i := 4) rfl ?_; (try simp only [zS, zN, zT, zC, zZ])
      refine tj (i := 5) rfl ?_; (try simp only [zS, zN, zT, zC, zZ])
      refine tj (i := 6) rfl ?_; (try simp only [zS, zN, zT, zC, zZ])
      refine tj (i := 7) rfl ?_; (try simp only [zS, zN, zT, zC, zZ])
      refine tj (i := 8) rfl ?_; (try simp only [zS, zN, zT, zC, zZ])
      refine tjN (i := 9) rfl ?_; (try simp only [zS, zN, zT, zC, zZ])
      refine tjN (i := 10) rfl ?_; (try simp only [zS, zN, zT, zC, zZ])
      refine tjN (i := 11) rfl ?_; (try simp only [zS, zN, zT, zC, zZ])
      refine tjN (i := 12) rfl ?_; (try simp only [zS, zN, zT, zC, zZ])
      refine tjN (i := 13) rfl ?_; (try simp only [zS, zN, zT, zC, zZ])
      refine tjN (i := 14) rfl ?_; (try simp only [zS, zN, zT, zC, zZ])
      refine tjN (i := 15) rfl ?_; (try simp only [zS, zN, zT, zC, zZ])
      refine tj (i := 16) rfl ?_; (try simp only [zS, zN, zT, zC, zZ])
      refine tj (i := 17) rfl ?_; (try simp only [zS, zN, zT, zC, zZ])
      refine tjN (i := 18) rfl ?_; (try simp only [zS, zN, zT, zC, zZ])
      refine tjN (i := 19) rfl ?_; (try simp only [zS, zN, zT, zC, zZ])
      refine tjN (i := 20) rfl ?_; (try simp only [zS, zN, zT, zC, zZ])
      refine tjN (i := 21) rfl ?_; (try simp only [zS, zN, zT, zC, zZ])
      refine tjN (i := 22) rfl ?_; (try simp only [zS, zN, zT, zC, zZ])
      refine tjN (i := 23) rfl ?_; (try simp only [zS, zN, zT, zC, zZ])
      refine tjN (i := 24) rfl ?_; (try simp only [zS, zN, zT, zC, zZ])
      refine tj (i := 25) rfl ?_; (try simp only [zS, zN, zT, zC, zZ])
      refine tj (i := 26) rfl ?_; (try simp only [zS, zN, zT, zC, zZ])
      refine wpAnyH_ready (rs := [27]) (by kernel_rfl) (by simp) ?_
      refine AllReadyH.cons rfl (fun K hK => ?_) AllReadyH.nil
      (rw [if_pos (by rfl)]; refine wp_store_row 130 (.tmp 4) (.tmp 115) rfl (w.heap.size + 2) #[.int .i64 (nr : Int), .int .i64 ((np : Int) + 1), .int .i64 0, .bool false, .bool false] rfl rfl 130 #[.int .i64 0, .int .i64 0, .int .i64 0, .bool false, .bool false] VRs info_want rfl (by simp [Value.oneCell']) ?_; have gR := setRow_grown (World.drew W) (w.heap.size + 2) #[.int .i64 (nr : Int), .int .i64 ((np : Int) + 1), .int .i64 0, .bool false, .bool false]; have SSr : (fun W' => W'.cell? ⟨K5, 0, none⟩ = some (.slice A np c) ∧ W'.cell? ⟨K5, 1, none⟩ = some (.slice B nr d) ∧ W'.cell? ⟨w.heap.size + 1, 3, none⟩ = some (.int .i64 x.b) ∧ W'.cell? ⟨w.heap.size, 13, none⟩ = some (.slice X.BA t.tables.length X.bc)) ((World.drew W).setRow (w.heap.size + 2) #[.int .i64 (nr : Int), .int .i64 ((np : Int) + 1), .int .i64 0, .bool false, .bool false]) := ⟨gR.cell t_0 (by intro e; injection e with e; dsimp only at e; omega), gR.cell t_1 (by intro e; injection e with e; dsimp only at e; omega), gR.cell t_2 (by intro e; injection e with e; dsimp only at e; omega), gR.cell t_3 (by intro e; injection e with e; dsimp only at e; omega)⟩; dsimp only at SSr)
      (try dsimp only)
      refine hK.out _ _ ?_ (fun hHeld1 => ?_)
      · first | trivial | ((try dsimp only); first | assumption | trivial | go_keep)
      clear hK K hHeld0
      (try simp only [zS, zN, zT, zC, zZ])
      refine wpAnyH_done (by kernel_rfl) ?_ _
      (try dsimp only)
      repeat (first | go_values | go_skip | go_guarded | go_step | go_upon)
      refine bodyPost_ret (results_cell_row rfl _ _ (w.heap.size + 2) _ #[.int .i64 (nr : Int), .int .i64 ((np : Int) + 1), .int .i64 0, .bool false, .bool false] (0, 0) _ rfl (setRow_heap (World.drew W) (w.heap.size + 2) #[.int .i64 0, .int .i64 0, .int .i64 0, .bool false, .bool false] _ _ (0, 0) VRs) Tryz.underlying130 rfl (by kernel_rfl)) rfl ?_
      have gR2 := setRow_grown (World.drew W) (w.heap.size + 2) #[.int .i64 (nr : Int), .int .i64 ((np : Int) + 1), .int .i64 0, .bool false, .bool false]
      have BD := S.out.bel.trans ((below_drewN W 1).mono S.out.bel.size)
      exact ⟨by rw [← hR]; simp [wtV], below_grown BD gR2 BD.size (by omega)⟩
    rcases he : Mc.ent t.tables x.b with _ | f
    · have hin : Mc.within x.b ((t.tables.length : Int) - 1) = false := Mc.ent_none he
      unfold Mc.inL at hR
      rw [hin, he] at hR
      clear he HT
      have SS : (fun W' => W'.cell? ⟨K5, 0, none⟩ = some (.slice A np c) ∧ W'.cell? ⟨K5, 1, none⟩ = some (.slice B nr d) ∧ W'.cell? ⟨w.heap.size + 1, 3, none⟩ = some (.int .i64 x.b) ∧ W'.cell? ⟨w.heap.size, 13, none⟩ = some (.slice X.BA t.tables.length X.bc)) (World.drew W) := ⟨q0, q1, m3, g13⟩
      dsimp only at SS
      have SSc := SS
      obtain ⟨t_0, t_1, t_2, t_3⟩ := SSc
      refine wp_region_held_drew (S := (fun W' => W'.cell? ⟨K5, 0, none⟩ = some (.slice A np c) ∧ W'.cell? ⟨K5, 1, none⟩ = some (.slice B nr d) ∧ W'.cell? ⟨w.heap.size + 1, 3, none⟩ = some (.int .i64 x.b) ∧ W'.cell? ⟨w.heap.size, 13, none⟩ = some (.slice X.BA t.tables.length X.bc))) (by kernel_rfl) ?_ (fun hHeld0 => ?_)
      · first | assumption | go_keep
      refine tj (i := 0) rfl ?_; (try simp only [zS, zN, zT, zC, zZ])
      refine tj (i := 1) rfl ?_; (try simp only [zS, zN, zT, zC, zZ])
      refine tj (i := 2) rfl ?_; (try simp only [zS, zN, zT, zC, zZ])
      refine tj (i := 3) rfl ?_; (try simp only [zS, zN, zT, zC, zZ])
      refine tj (i := 4) rfl ?_; (try simp only [zS, zN, zT, zC, zZ])
      refine tj (i := 5) rfl ?_; (try simp only [zS, zN, zT, zC, zZ])
      refine tj (i := 6) rfl ?_; (try simp only [zS, zN, zT, zC, zZ])
      refine tj (i := 7) rfl ?_; (try simp only [zS, zN, zT, zC, zZ])
      refine tj (i := 8) rfl ?_; (try simp only [zS, zN, zT, zC, zZ])
      refine tj (i := 9) rfl ?_; (try simp only [zS, zN, zT, zC, zZ])
      refine tj (i := 10) rfl ?_; (try simp only [zS, zN, zT, zC, zZ])
      refine tj (i := 11) rfl ?_; (try simp only [zS, zN, zT, zC, zZ])
      refine tj (i := 12) rfl ?_; (try simp only [zS, zN, zT, zC, zZ])
      refine tj (i := 13) rfl ?_; (try simp only [zS, zN, zT, zC, zZ])
      refine tj (i := 14) rfl ?_; (try simp only [zS, zN, zT, zC, zZ])
      refine wpAnyH_ready (rs := [15]) (by kernel_rfl) (by simp) ?_
      refine AllReadyH.cons rfl (fun K hK => ?_) AllReadyH.nil
      go_simp
      (refine (within_any _ _ _).mono ?_; rintro e w4 ⟨rfl, rfl⟩)
      (try dsimp only)
      refine hK.out _ _ ?_ (fun hHeld1 => ?_)
      · first | trivial | ((try dsimp only); first | assumption | trivial | go_keep)
      clear hK K hHeld0
      (try simp only [zS, zN, zT, zC, zZ])
      refine tj (i := 16) rfl ?_; (try simp only [zS, zN, zT, zC, zZ])
      refine tj (i := 17) rfl ?_; (try simp only [zS, zN, zT, zC, zZ])
      refine tjN (i := 18) rfl ?_; (try simp only [zS, zN, zT, zC, zZ])
      refine tjN (i := 19) rfl ?_; (try simp only [zS, zN, zT, zC, zZ])
      refine tjN (i := 20) rfl ?_; (try simp only [zS, zN, zT, zC, zZ])
      refine tjN (i := 21) rfl ?_; (try simp only [zS, zN, zT, zC, zZ])
      refine tjN (i := 22) rfl ?_; (try simp only [zS, zN, zT, zC, zZ])
      refine tjN (i := 23) rfl ?_; (try simp only [zS, zN, zT, zC, zZ])
      refine tjN (i := 24) rfl ?_; (try simp only [zS, zN, zT, zC, zZ])
      refine tj (i := 25) rfl ?_; (try simp only [zS, zN, zT, zC, zZ])
      refine tj (i := 26) rfl ?_; (try simp only [zS, zN, zT, zC, zZ])
      refine wpAnyH_ready (rs := [27]) (by kernel_rfl) (by simp) ?_
      refine AllReadyH.cons rfl (fun K hK => ?_) AllReadyH.nil
      (rw [if_pos (by rfl)]; refine wp_store_row 130 (.tmp 4) (.tmp 115) rfl (w.heap.size + 2) #[.int .i64 (nr : Int), .int .i64 ((np : Int) + 1), .int .i64 0, .bool false, .bool false] rfl rfl 130 #[.int .i64 0, .int .i64 0, .int .i64 0, .bool false, .bool false] VRs info_want rfl (by simp [Value.oneCell']) ?_; have gR := setRow_grown (World.drew W) (w.heap.size + 2) #[.int .i64 (nr : Int), .int .i64 ((np : Int) + 1), .int .i64 0, .bool false, .bool false]; have SSr : (fun W' => W'.cell? ⟨K5, 0, none⟩ = some (.slice A np c) ∧ W'.cell? ⟨K5, 1, none⟩ = some (.slice B nr d) ∧ W'.cell? ⟨w.heap.size + 1, 3, none⟩ = some (.int .i64 x.b) ∧ W'.cell? ⟨w.heap.size, 13, none⟩ = some (.slice X.BA t.tables.length X.bc)) ((World.drew W).setRow (w.heap.size + 2) #[.int .i64 (nr : Int), .int .i64 ((np : Int) + 1), .int .i64 0, .bool false, .bool false]) := ⟨gR.cell t_0 (by intro e; injection e with e; dsimp only at e; omega), gR.cell t_1 (by intro e; injection e with e; dsimp only at e; omega), gR.cell t_2 (by intro e; injection e with e; dsimp only at e; omega), gR.cell t_3 (by intro e; injection e with e; dsimp only at e; omega)⟩; dsimp only at SSr)
      (try dsimp only)
      refine hK.out _ _ ?_ (fun hHeld2 => ?_)
      · first | trivial | ((try dsimp only); first | assumption | trivial | go_keep)
      clear hK K hHeld1
      (try simp only [zS, zN, zT, zC, zZ])
      refine wpAnyH_done (by kernel_rfl) ?_ _
      (try dsimp only)
      repeat (first | go_values | go_skip | go_guarded | go_step | go_upon)
      refine bodyPost_ret (results_cell_row rfl _ _ (w.heap.size + 2) _ #[.int .i64 (nr : Int), .int .i64 ((np : Int) + 1), .int .i64 0, .bool false, .bool false] (0, 0) _ rfl (setRow_heap (World.drew W) (w.heap.size + 2) #[.int .i64 0, .int .i64 0, .int .i64 0, .bool false, .bool false] _ _ (0, 0) VRs) Tryz.underlying130 rfl (by kernel_rfl)) rfl ?_
      have gR2 := setRow_grown (World.drew W) (w.heap.size + 2) #[.int .i64 (nr : Int), .int .i64 ((np : Int) + 1), .int .i64 0, .bool false, .bool false]
      have BD := S.out.bel.trans ((below_drewN W 1).mono S.out.bel.size)
      exact ⟨by rw [← hR]; simp [wtV], below_grown BD gR2 BD.size (by omega)⟩
    obtain ⟨hin, k, hka, hk2, hf2⟩ := Mc.ent_some he
    have hin0 : Mc.within x.b ((t.tables.length : Int) - 1) = true := hin
    unfold Mc.inL at hR
    rw [hin0, he] at hR
    obtain ⟨g, o, hga, -, hg, hty⟩ := HT.out.tb.get hk2
    obtain ⟨g', o', hga', -, hg', -⟩ := HTb.out.get hk2
    rw [hga] at hga'
    cases hga'
    rw [hf2] at hty
    rw [hga] at g13
    have f0 : W.cell? ⟨g, o + k * 1, none⟩ = some (.int .i64 f) := hty
    rw [Nat.mul_one] at f0
    rw [hka] at m3 hin0
    have x0 : (0 : Int) ≤ (k : Int) := by omega
    have x1 : (k : Int) < (t.tables.length : Int) := by omega
    clear he HT hty hf2 hin
    have SS : (fun W' => W'.cell? ⟨K5, 0, none⟩ = some (.slice A np c) ∧ W'.cell? ⟨K5, 1, none⟩ = some (.slice B nr d) ∧ W'.cell? ⟨w.heap.size + 1, 3, none⟩ = some (.int .i64 (k : Int)) ∧ W'.cell? ⟨w.heap.size, 13, none⟩ = some (.slice (some ⟨g, o, none⟩) t.tables.length X.bc) ∧ W'.cell? ⟨g, o + k, none⟩ = some (.int .i64 f)) (World.drew W) := ⟨q0, q1, m3, g13, f0⟩
    dsimp only at SS
    have SSc := SS
    obtain ⟨t_0, t_1, t_2, t_3, t_4⟩ := SSc
    refine wp_region_held_drew (S := (fun W' => W'.cell? ⟨K5, 0, none⟩ = some (.slice A np c) ∧ W'.cell? ⟨K5, 1, none⟩ = some (.slice B nr d) ∧ W'.cell? ⟨w.heap.size + 1, 3, none⟩ = some (.int .i64 (k : Int)) ∧ W'.cell? ⟨w.heap.size, 13, none⟩ = some (.slice (some ⟨g, o, none⟩) t.tables.length X.bc) ∧ W'.cell? ⟨g, o + k, none⟩ = some (.int .i64 f))) (by kernel_rfl) ?_ (fun hHeld0 => ?_)
    · first | assumption | go_keep
    refine tj (i := 0) rfl ?_; (try simp only [zS, zN, zT, zC, zZ])
    refine tj (i := 1) rfl ?_; (try simp only [zS, zN, zT, zC, zZ])
    refine tj (i := 2) rfl ?_; (try simp only [zS, zN, zT, zC, zZ])
    refine tj (i := 3) rfl ?_; (try simp only [zS, zN, zT, zC, zZ])
    refine tj (i := 4) rfl ?_; (try simp only [zS, zN, zT, zC, zZ])
    refine tj (i := 5) rfl ?_; (try simp only [zS, zN, zT, zC, zZ])
    refine tj (i := 6) rfl ?_; (try simp only [zS, zN, zT, zC, zZ])
    refine tj (i := 7) rfl ?_; (try simp only [zS, zN, zT, zC, zZ])
    refine tj (i := 8) rfl ?_; (try simp only [zS, zN, zT, zC, zZ])
    refine tj (i := 9) rfl ?_; (try simp only [zS, zN, zT, zC, zZ])
    refine tj (i := 10) rfl ?_; (try simp only [zS, zN, zT, zC, zZ])
    refine tj (i := 11) rfl ?_; (try simp only [zS, zN, zT, zC, zZ])
    refine tj (i := 12) rfl ?_; (try simp only [zS, zN, zT, zC, zZ])
    refine tj (i := 13) rfl ?_; (try simp only [zS, zN, zT, zC, zZ])
    refine tj (i := 14) rfl ?_; (try simp only [zS, zN, zT, zC, zZ])
    refine wpAnyH_ready (rs := [15]) (by kernel_rfl) (by simp) ?_
    refine AllReadyH.cons rfl (fun K hK => ?_) AllReadyH.nil
    go_simp
    (refine (within_any _ _ _).mono ?_; rintro e w4 ⟨rfl, rfl⟩)
    (try dsimp only)
    refine hK.out _ _ ?_ (fun hHeld1 => ?_)
    · first | trivial | ((try dsimp only); first | assumption | trivial | go_keep)
    clear hK K hHeld0
    (try simp only [zS, zN, zT, zC, zZ])
    refine tj (i := 16) rfl ?_; (try simp only [zS, zN, zT, zC, zZ])
    refine tj (i := 17) rfl ?_; (try simp only [zS, zN, zT, zC, zZ])
    refine tj (i := 18) rfl ?_; (try simp only [zS, zN, zT, zC, zZ])
    refine tj (i := 19) rfl ?_; (try simp only [zS, zN, zT, zC, zZ])
    refine tj (i := 20) rfl ?_; (try simp only [zS, zN, zT, zC, zZ])
    refine tj (i := 21) rfl ?_; (try simp only [zS, zN, zT, zC, zZ])
    refine tj (i := 22) rfl ?_; (try simp only [zS, zN, zT, zC, zZ])
    refine tj (i := 23) rfl ?_; (try simp only [zS, zN, zT, zC, zZ])
    refine tj (i := 24) rfl ?_; (try simp only [zS, zN, zT, zC, zZ])
    refine tj (i := 25) rfl ?_; (try simp only [zS, zN, zT, zC, zZ])
    refine tj (i := 26) rfl ?_; (try simp only [zS, zN, zT, zC, zZ])
    refine wpAnyH_ready (rs := [27]) (by kernel_rfl) (by simp) ?_
    refine AllReadyH.cons rfl (fun K hK => ?_) AllReadyH.nil
    (rw [if_pos (by rfl)]; refine wp_store_row 130 (.tmp 4) (.tmp 115) rfl (w.heap.size + 2) #[.int .i64 (nr : Int), .int .i64 ((np : Int) + 1), .int .i64 0, .bool false, .bool (f == 3)] rfl rfl 130 #[.int .i64 0, .int .i64 0, .int .i64 0, .bool false, .bool false] VRs info_want rfl (by simp [Value.oneCell']) ?_; have gR := setRow_grown (World.drew W) (w.heap.size + 2) #[.int .i64 (nr : Int), .int .i64 ((np : Int) + 1), .int .i64 0, .bool false, .bool (f == 3)]; have SSr : (fun W' => W'.cell? ⟨K5, 0, none⟩ = some (.slice A np c) ∧ W'.cell? ⟨K5, 1, none⟩ = some (.slice B nr d) ∧ W'.cell? ⟨w.heap.size + 1, 3, none⟩ = some (.int .i64 (k : Int)) ∧ W'.cell? ⟨w.heap.size, 13, none⟩ = some (.slice (some ⟨g, o, none⟩) t.tables.length X.bc) ∧ W'.cell? ⟨g, o + k, none⟩ = some (.int .i64 f)) ((World.drew W).setRow (w.heap.size + 2) #[.int .i64 (nr : Int), .int .i64 ((np : Int) + 1), .int .i64 0, .bool false, .bool (f == 3)]) := ⟨gR.cell t_0 (by intro e; injection e with e; dsimp only at e; omega), gR.cell t_1 (by intro e; injection e with e; dsimp only at e; omega), gR.cell t_2 (by intro e; injection e with e; dsimp only at e; omega), gR.cell t_3 (by intro e; injection e with e; dsimp only at e; omega), gR.cell t_4 (by intro e; injection e with e; dsimp only at e; omega)⟩; dsimp only at SSr)
    (try dsimp only)
    refine hK.out _ _ ?_ (fun hHeld2 => ?_)
    · first | trivial | ((try dsimp only); first | assumption | trivial | go_keep)
    clear hK K hHeld1
    (try simp only [zS, zN, zT, zC, zZ])
    refine wpAnyH_done (by kernel_rfl) ?_ _
    (try dsimp only)
    repeat (first | go_values | go_skip | go_guarded | go_step | go_upon)
    refine bodyPost_ret (results_cell_row rfl _ _ (w.heap.size + 2) _ #[.int .i64 (nr : Int), .int .i64 ((np : Int) + 1), .int .i64 0, .bool false, .bool (f == 3)] (0, 0) _ rfl (setRow_heap (World.drew W) (w.heap.size + 2) #[.int .i64 0, .int .i64 0, .int .i64 0, .bool false, .bool false] _ _ (0, 0) VRs) Tryz.underlying130 rfl (by kernel_rfl)) rfl ?_
    have gR2 := setRow_grown (World.drew W) (w.heap.size + 2) #[.int .i64 (nr : Int), .int .i64 ((np : Int) + 1), .int .i64 0, .bool false, .bool (f == 3)]
    have BD := S.out.bel.trans ((below_drewN W 1).mono S.out.bel.size)
    exact ⟨by rw [← hR]; simp [wtV], below_grown BD gR2 BD.size (by omega)⟩
  · rw [if_neg (by decide), if_neg (by decide), if_neg (by decide), if_neg (by decide), if_neg (by decide), if_pos rfl] at hR
    rw [hR] at HBu
    unfold thA miV wtV at HBu
    rw [hk] at HBu
    clear HTy HTa HT
    go_wp2_with (go_at_call 145; refine (HBu.out _).mono ?_; rintro e w3 ⟨rfl, hb⟩; have S := Lib.hid (S.out.below hb); obtain ⟨⟨r0, r1, r2, r3, r4⟩, z0, z1, z2, z3, z4⟩ := cells5 S.out.rs; have hlt := S.out.rs.lt)
    refine bodyPost_ret (results_cell_row rfl _ _ (w.heap.size + 2) _ _ (0, 0) _ rfl (put5 S.out.rs _ _ _ _ _).1 Tryz.underlying130 rfl (by kernel_rfl)) rfl ?_
    exact ⟨rfl, below_grown S.out.bel (put5 S.out.rs _ _ _ _ _).2 S.out.bel.size (by omega)⟩
  · rw [if_neg (by decide), if_neg (by decide), if_neg (by decide), if_neg (by decide), if_neg (by decide), if_neg (by decide)] at hR
    rw [hR] at HTa
    unfold thA miV wtV at HTa
    rw [hk] at HTa
    clear HTy HBu HT
    go_wp2_with (go_at_call 146; refine (HTa.out _).mono ?_; rintro e w3 ⟨rfl, hb⟩; have S := Lib.hid (S.out.below hb); obtain ⟨⟨r0, r1, r2, r3, r4⟩, z0, z1, z2, z3, z4⟩ := cells5 S.out.rs; have hlt := S.out.rs.lt)
    refine bodyPost_ret (results_cell_row rfl _ _ (w.heap.size + 2) _ _ (0, 0) _ rfl (put5 S.out.rs _ _ _ _ _).1 Tryz.underlying130 rfl (by kernel_rfl)) rfl ?_
    exact ⟨rfl, below_grown S.out.bel (put5 S.out.rs _ _ _ _ _).2 S.out.bel.size (by omega)⟩
end Go.Proofs.YtadnfekogmjieaaGreatDoor
