/-
  Layer 51, the reference: others and needs. (Printed by gen_mk8.py.)
  Layer 51, the reference: needs. (Printed by gen_mk8.py.)
-/
import Derived.Test.YtadnfekogmjieaaGreatDoorGTj
import Derived.Test.YtadnfekogmjieaaGreatDoorGTk
import Derived.Test.YtadnfekogmjieaaGreatDoorGGZ
import Derived.Test.YtadnfekogmjieaaGreatDoorGMC7
import Derived.Test.YtadnfekogmjieaaGreatDoorGMKA
set_option linter.unusedVariables false
set_option linter.unusedSimpArgs false
namespace Go.Proofs.YtadnfekogmjieaaGreatDoor
open Go.RowKit
open Mc (Pl Mi Mf Th Wt Im Md)
structure Q4 (S : Nat → Prop) (w W : World) (m : Md) (x : MX) (mv fv yv : Array Value) : Prop where
  bel : Below w.heap.size w W
  md : Var W w.heap.size mv 33
  mf : Var W (w.heap.size + 1) fv 39
  mi : Var W (w.heap.size + 2) yv 61
  rs : Var W (w.heap.size + 3) #[.int .i64 0, .int .i64 0, .bool false] 137
  ml : MdL S W m x
theorem Q4.new {S : Nat → Prop} {w : World} {m : Md} {x : MX} (mv fv yv : Array Value) (hm : MdL S w m x) : Q4 S w ((((w.alloc (.cells mv 33)).alloc (.cells fv 39)).alloc (.cells yv 61)).alloc (.cells #[.int .i64 0, .int .i64 0, .bool false] 137)) m x mv fv yv :=
  ⟨(((((Below.refl w.heap.size w).alloc (Nat.le_refl _) _).alloc (by simp) _).alloc (by simp; omega) _).alloc (by simp; omega) _), (((Var.new w _ _).alloc _).alloc _).alloc _, by have h := ((Var.new (w.alloc (.cells mv 33)) fv 39).alloc (.cells yv 61)).alloc (.cells #[.int .i64 0, .int .i64 0, .bool false] 137); simpa using h, by have h := (Var.new ((w.alloc (.cells mv 33)).alloc (.cells fv 39)) yv 61).alloc (.cells #[.int .i64 0, .int .i64 0, .bool false] 137); simpa using h, by have h := Var.new (((w.alloc (.cells mv 33)).alloc (.cells fv 39)).alloc (.cells yv 61)) #[.int .i64 0, .int .i64 0, .bool false] 137; simpa using h, hm.on (((((Below.refl w.heap.size w).alloc (Nat.le_refl _) _).alloc (by simp) _).alloc (by simp; omega) _).alloc (by simp; omega) _)⟩
theorem Q4.below {S : Nat → Prop} {w W W' : World} {m : Md} {x : MX} {mv fv yv : Array Value} (h : Q4 S w W m x mv fv yv) (hb : Below W.heap.size W W') : Q4 S w W' m x mv fv yv := ⟨h.bel.trans (hb.mono h.bel.size), var_keep h.md hb, var_keep h.mf hb, var_keep h.mi hb, var_keep h.rs hb, h.ml.on hb⟩
theorem Q4.fr {S : Nat → Prop} {w W : World} {m : Md} {x : MX} {mv fv yv : Array Value} {b0 b1 b2 : Value} (h : Q4 S w W m x mv fv yv) : Var (((W.setCell ⟨w.heap.size + 3, 0, none⟩ b0).setCell ⟨w.heap.size + 3, 1, none⟩ b1).setCell ⟨w.heap.size + 3, 2, none⟩ b2) (w.heap.size + 3) #[b0, b1, b2] 137 := (put3 h.rs _ _ _).1
theorem Q4.fb {S : Nat → Prop} {w W : World} {m : Md} {x : MX} {mv fv yv : Array Value} {b0 b1 b2 : Value} (h : Q4 S w W m x mv fv yv) : Below w.heap.size w (((W.setCell ⟨w.heap.size + 3, 0, none⟩ b0).setCell ⟨w.heap.size + 3, 1, none⟩ b1).setCell ⟨w.heap.size + 3, 2, none⟩ b2) := below_grown h.bel (put3 h.rs _ _ _).2 h.bel.size (by omega)
def Mc.mutO : Option (Int × Bool) → Bool
  | some g => g.2
  | none => false
theorem Mc.setOk_eq (t : Th) (x : Mi) : Mc.setOk t x = Mc.mutO (Mc.ent t.globals x.a) := by unfold Mc.setOk Mc.mutO; cases Mc.ent t.globals x.a <;> rfl
theorem GloOut.uni {o : Option (Int × Bool)} {e : Ending} (h : GloOut o e) : ∃ z d, e = .returned (.tuple #[.agg #[.int .i64 z, .bool d], .bool o.isSome]) ∧ Mc.mutO o = (o.isSome && d) := by
  rcases o with _ | ⟨z, d⟩
  · obtain ⟨z, d, rfl⟩ := h
    exact ⟨z, d, rfl, rfl⟩
  · exact ⟨z, d, h, rfl⟩
theorem TabOut.uni {o : Option Int} {e : Ending} (h : TabOut o e) : ∃ z a b d, e = .returned (.tuple #[.agg #[.int .i64 z, .int .i64 a, .int .i64 b, .bool d], .bool o.isSome]) ∧ (o == some 3) = (o.isSome && (z == 3)) := by
  rcases o with _ | z
  · obtain ⟨z, a, b, d, rfl⟩ := h
    exact ⟨z, a, b, d, rfl, rfl⟩
  · obtain ⟨a, b, d, rfl⟩ := h
    exact ⟨z, a, b, d, rfl, by simp⟩
set_option maxHeartbeats 16000000 in
set_option maxRecDepth 100000 in
theorem rothers_any (m : Md) (hm : m.Few) (x : MX) (ho : x.One) (S : Nat → Prop) (y : Mi) (D : Option Addr) (c1 : Nat) (E : Option Addr) (c2 : Nat) (T : Option Addr) (c3 : Nat) (ra : InR y.a) (rb : InR y.b) (f : Mf) (P : Option Addr) (p1 : Nat) (R0 : Option Addr) (p2 : Nat) (C : Option Addr) (p3 : Nat) (w : World) (hl : MdL S w m x) :
    Calls Tryz.prog 117 #[.agg (mdA m x), .agg (mfV f P p1 R0 p2 C p3), .agg (miV y D c1 E c2 T c3)] w fun e w' => e = .returned (.agg (nd3 (Mc.othN (Mc.thOf m) y f.rs.length))) ∧ Below w.heap.size w w' := by
  obtain ⟨R, hR⟩ : ∃ R, Mc.othN (Mc.thOf m) y f.rs.length = R := ⟨_, rfl⟩
  rw [hR]
  unfold Mc.othN Mc.calliW at hR
  rw [Mc.call_fun, Mc.setOk_eq] at hR
  simp only [Mc.inL_ent] at hR
  have HG := Lib.hid (fun W (h : MdL S W m x) => (rglobal8_any m hm.im x ho S y.a ra.1 ra.2 W h).mono fun e w' h => And.intro (GloOut.uni h.1) h.2)
  have HF := Lib.hid (fun W (h : MdL S W m x) => rfunc8_any m hm.im x ho S y.a ra.1 ra.2 W h)
  have HTy := Lib.hid (fun W (h : MdL S W m x) => rtype_any m hm.im x ho S y.a W h)
  have HTb := Lib.hid (fun W (h : MdL S W m x) => (rtable8_any m hm.im x ho S y.b rb.1 rb.2 W h).mono fun e w' h => And.intro (TabOut.uni h.1) h.2)
  have HFs := Lib.hid (fun W (h : MdL S W m x) => rfuncs_any m hm x ho S W h)
  have hpl : (Mc.lensO (Mc.ent m.types y.a)).1.1 ≤ 17592186044416 := by
    rcases he : Mc.ent m.types y.a with _ | f
    · exact Nat.zero_le _
    · obtain ⟨-, k, -, hk, hf2⟩ := Mc.ent_some he
      rw [← hf2]
      exact (hm.pl _ (List.getElem_mem hk)).1
  have ty : Mc.typLen (Mc.thOf m) y.a = Mc.lensO (Mc.ent m.types y.a) := Mc.typLen_lens _ _
  have hif := Mc.inL_iff y.a (Mc.thOf m).funcs.length
  rw [Mc.inL_ent] at hif
  rw [ty] at hR
  obtain ⟨gk, egk⟩ : ∃ q, (Mc.ent (Mc.thOf m).globals y.a).isSome = q := ⟨_, rfl⟩
  obtain ⟨gm, egm⟩ : ∃ q, Mc.mutO (Mc.ent (Mc.thOf m).globals y.a) = q := ⟨_, rfl⟩
  obtain ⟨⟨⟨fp, fr⟩, fb⟩, eof⟩ : ∃ q, Mc.funO (Mc.thOf m) y.a = q := ⟨_, rfl⟩
  obtain ⟨⟨⟨np, nr⟩, tb⟩, eot⟩ : ∃ q, Mc.lensO (Mc.ent m.types y.a) = q := ⟨_, rfl⟩
  obtain ⟨bk, ebk⟩ : ∃ q, (Mc.ent (Mc.thOf m).tables y.b).isSome = q := ⟨_, rfl⟩
  obtain ⟨b3, eb3⟩ : ∃ q, (Mc.ent (Mc.thOf m).tables y.b == some 3) = q := ⟨_, rfl⟩
  obtain ⟨qf, eqf⟩ : ∃ q, (Mc.ent (Mc.thOf m).funcs y.a).isSome = q := ⟨_, rfl⟩
  obtain ⟨nf, enf⟩ : ∃ q, (Mc.thOf m).funcs.length = q := ⟨_, rfl⟩
  simp only [egk, egm, eof, eot, ebk, eb3, eqf] at hR
  simp only [egk, egm] at HG
  simp only [eof] at HF
  simp only [eot] at HTy hpl
  simp only [ebk, eb3] at HTb
  simp only [enf] at HFs hif
  rw [eqf] at hif
  try dsimp only at hpl
  have hwn : IntKind.i64.wrap ((np : Int) + 1) = (np : Int) + 1 := by rw [IntKind.wrap_i64]; omega
  unfold mdA at HG HF HTy HTb HFs
  have I0 := Lib.hid (Q4.new (mdA m x) (mfV f P p1 R0 p2 C p3) (miV y D c1 E c2 T c3) hl)
  clear hl ho hm egk egm eof eot ebk eb3 eqf enf ty ra rb
  go_enter Tryz.func117, Tryz.ntmps117
  go_upto_region 1 with fail
  refine at_code (F := fun W => Hid (Q4 S w W m x (mdA m x) (mfV f P p1 R0 p2 C p3) (miV y D c1 E c2 T c3))) I0 ?_
  clear I0
  intro W I
  obtain ⟨⟨g0, g1, g2, g3, g4, g5⟩, g6, g7, g8, g9, g10, g11⟩ := mdA_cells I.out.md
  obtain ⟨m0, m1, m2, m3, m4, m5, m6, m7, m8⟩ := miV_cells I.out.mi
  obtain ⟨r0, r1, r2, z0, z1, z2⟩ := cells3f I.out.rs
  have hlt := I.out.rs.lt
  obtain ⟨y0, y1, y2, y3⟩ := mfV_cells I.out.mf
  go_upto_region 2 with (go_at_call 156; refine (HG.out _ I.out.ml).mono ?_; rintro e w5 ⟨⟨gz, gb, rfl, hgm⟩, hb⟩; have I5 := Lib.hid (I.out.below hb); rw [hgm] at hR; clear hgm)
  refine at_code (F := fun W => Hid (Q4 S w W m x (mdA m x) (mfV f P p1 R0 p2 C p3) (miV y D c1 E c2 T c3)) ∧ Hid (Var W w5.heap.size #[.int .i64 gz, .bool gb] 74)) ⟨Lib.hid (I5.out.below ((Below.refl _ _).alloc (Nat.le_refl _) _)), Lib.hid (Var.new _ _ _)⟩ ?_
  clear I I5 hb HG g0 g1 g2 g3 g4 g5 g6 g7 g8 g9 g10 g11 m0 m1 m2 m3 m4 m5 m6 m7 m8 r0 r1 r2 z0 z1 z2 hlt y0 y1 y2 y3
  obtain ⟨K7, hK⟩ : ∃ K, w5.heap.size = K := ⟨_, rfl⟩
  simp only [hK]
  clear hK
  rintro W ⟨I, V7⟩
  obtain ⟨⟨g0, g1, g2, g3, g4, g5⟩, g6, g7, g8, g9, g10, g11⟩ := mdA_cells I.out.md
  obtain ⟨m0, m1, m2, m3, m4, m5, m6, m7, m8⟩ := miV_cells I.out.mi
  obtain ⟨r0, r1, r2, z0, z1, z2⟩ := cells3f I.out.rs
  have hlt := I.out.rs.lt
  obtain ⟨y0, y1, y2, y3⟩ := mfV_cells I.out.mf
  go_upto_region 3 with (go_at_call 157; refine (HF.out _ I.out.ml).mono ?_; rintro e w6 ⟨⟨A9, c9, B9, d9, rfl⟩, hb⟩; have I6 := Lib.hid (I.out.below hb); have V76 := Lib.hid (var_keep V7.out hb); dsimp only)
  refine at_code (F := fun W => Hid (Q4 S w W m x (mdA m x) (mfV f P p1 R0 p2 C p3) (miV y D c1 E c2 T c3)) ∧ Hid (Var W K7 #[.int .i64 gz, .bool gb] 74) ∧ Hid (Var W w6.heap.size #[.slice A9 fp c9, .slice B9 fr d9] 36)) ⟨Lib.hid (I6.out.below ((Below.refl _ _).alloc (Nat.le_refl _) _)), Lib.hid (var_keep V76.out ((Below.refl _ _).alloc (Nat.le_refl _) _)), Lib.hid (Var.new _ _ _)⟩ ?_
  clear I I6 hb HF V7 V76 g0 g1 g2 g3 g4 g5 g6 g7 g8 g9 g10 g11 m0 m1 m2 m3 m4 m5 m6 m7 m8 r0 r1 r2 z0 z1 z2 hlt y0 y1 y2 y3
  obtain ⟨K9, hK⟩ : ∃ K, w6.heap.size = K := ⟨_, rfl⟩
  simp only [hK]
  clear hK
  rintro W ⟨I, V7, V9⟩
  obtain ⟨⟨g0, g1, g2, g3, g4, g5⟩, g6, g7, g8, g9, g10, g11⟩ := mdA_cells I.out.md
  obtain ⟨m0, m1, m2, m3, m4, m5, m6, m7, m8⟩ := miV_cells I.out.mi
  obtain ⟨r0, r1, r2, z0, z1, z2⟩ := cells3f I.out.rs
  have hlt := I.out.rs.lt
  obtain ⟨y0, y1, y2, y3⟩ := mfV_cells I.out.mf
  obtain ⟨u0, u1⟩ := cells2 V7.out
  obtain ⟨t0, t1⟩ := cells2 V9.out
  by_cases k10 : y.kind = 10
  · rw [if_pos k10] at hR
    rw [k10] at m0
    go_wp2_with fail
    refine bodyPost_ret (results_cell_row rfl _ _ (w.heap.size + 3) _ _ (0, 0) _ rfl I.out.fr Tryz.underlying137 rfl (by kernel_rfl)) rfl ?_
    exact ⟨by rw [← hR]; first | rfl | simp [nd3, Mc.ndOf, Mc.wt0, Mc.nd0], I.out.fb⟩
  rw [if_neg k10] at hR
  have b10 : (y.kind == 10) = false := by rw [beq_eq_false_iff_ne]; exact k10
  by_cases k11 : y.kind = 11
  · rw [if_pos k11] at hR
    rw [k11] at m0
    rcases gk with _ | _
    · skip
      go_wp2_with fail
      refine bodyPost_ret (results_cell_row rfl _ _ (w.heap.size + 3) _ _ (0, 0) _ rfl I.out.fr Tryz.underlying137 rfl (by kernel_rfl)) rfl ?_
      exact ⟨by rw [← hR]; first | rfl | simp [nd3, Mc.ndOf, Mc.wt0, Mc.nd0], I.out.fb⟩
    go_wp2_with fail
    refine bodyPost_ret (results_cell_row rfl _ _ (w.heap.size + 3) _ _ (0, 0) _ rfl I.out.fr Tryz.underlying137 rfl (by kernel_rfl)) rfl ?_
    exact ⟨by rw [← hR]; first | rfl | simp [nd3, Mc.ndOf, Mc.wt0, Mc.nd0], I.out.fb⟩
  rw [if_neg k11] at hR
  have b11 : (y.kind == 11) = false := by rw [beq_eq_false_iff_ne]; exact k11
  by_cases k12 : y.kind = 12
  · rw [if_pos k12] at hR
    rw [k12] at m0
    go_wp2_with fail
    refine bodyPost_ret (results_cell_row rfl _ _ (w.heap.size + 3) _ _ (0, 0) _ rfl I.out.fr Tryz.underlying137 rfl (by kernel_rfl)) rfl ?_
    exact ⟨by rw [← hR]; first | rfl | simp [nd3, Mc.ndOf, Mc.wt0, Mc.nd0], I.out.fb⟩
  rw [if_neg k12] at hR
  have b12 : (y.kind == 12) = false := by rw [beq_eq_false_iff_ne]; exact k12
  by_cases k13 : y.kind = 13
  · rw [if_pos k13] at hR
    rw [k13] at m0
    go_upto_region 12 with (go_at_call 158; refine (HTy.out _ I.out.ml).mono ?_; rintro e w7 ⟨⟨A, c, B, d, rfl⟩, hb⟩; have I7 := Lib.hid (I.out.below hb); dsimp only)
    refine at_code (F := fun W => Hid (Q4 S w W m x (mdA m x) (mfV f P p1 R0 p2 C p3) (miV y D c1 E c2 T c3)) ∧ Hid (Var W w7.heap.size #[.slice A np c, .slice B nr d] 36)) ⟨Lib.hid (I7.out.below ((Below.refl _ _).alloc (Nat.le_refl _) _)), Lib.hid (Var.new _ _ _)⟩ ?_
    clear I I7 hb HTy g0 g1 g2 g3 g4 g5 g6 g7 g8 g9 g10 g11 m0 m1 m2 m3 m4 m5 m6 m7 m8 r0 r1 r2 z0 z1 z2 hlt y0 y1 y2 y3 u0 u1 t0 t1 V7 V9
    obtain ⟨K11, hK⟩ : ∃ K, w7.heap.size = K := ⟨_, rfl⟩
    simp only [hK]
    clear hK
    rintro W ⟨I, V11⟩
    obtain ⟨⟨g0, g1, g2, g3, g4, g5⟩, g6, g7, g8, g9, g10, g11⟩ := mdA_cells I.out.md
    obtain ⟨m0, m1, m2, m3, m4, m5, m6, m7, m8⟩ := miV_cells I.out.mi
    obtain ⟨r0, r1, r2, z0, z1, z2⟩ := cells3f I.out.rs
    have hlt := I.out.rs.lt
    obtain ⟨y0, y1, y2, y3⟩ := mfV_cells I.out.mf
    go_upto_region 13 with (go_at_call 159; refine (HTb.out _ I.out.ml).mono ?_; rintro e w8 ⟨⟨tz, ta, tb2, td, rfl, hb3⟩, hb⟩; have I8 := Lib.hid (I.out.below hb); have V118 := Lib.hid (var_keep V11.out hb); rw [hb3] at hR; clear hb3)
    refine at_code (F := fun W => Hid (Q4 S w W m x (mdA m x) (mfV f P p1 R0 p2 C p3) (miV y D c1 E c2 T c3)) ∧ Hid (Var W K11 #[.slice A np c, .slice B nr d] 36) ∧ Hid (Var W w8.heap.size #[.int .i64 tz, .int .i64 ta, .int .i64 tb2, .bool td] 72)) ⟨Lib.hid (I8.out.below ((Below.refl _ _).alloc (Nat.le_refl _) _)), Lib.hid (var_keep V118.out ((Below.refl _ _).alloc (Nat.le_refl _) _)), Lib.hid (Var.new _ _ _)⟩ ?_
    clear I I8 hb HTb g0 g1 g2 g3 g4 g5 g6 g7 g8 g9 g10 g11 m0 m1 m2 m3 m4 m5 m6 m7 m8 r0 r1 r2 z0 z1 z2 hlt y0 y1 y2 y3 V11 V118
    obtain ⟨K13, hK⟩ : ∃ K, w8.heap.size = K := ⟨_, rfl⟩
    simp only [hK]
    clear hK
    rintro W ⟨I, V11, V13⟩
    obtain ⟨⟨g0, g1, g2, g3, g4, g5⟩, g6, g7, g8, g9, g10, g11⟩ := mdA_cells I.out.md
    obtain ⟨m0, m1, m2, m3, m4, m5, m6, m7, m8⟩ := miV_cells I.out.mi
    obtain ⟨r0, r1, r2, z0, z1, z2⟩ := cells3f I.out.rs
    have hlt := I.out.rs.lt
    obtain ⟨y0, y1, y2, y3⟩ := mfV_cells I.out.mf
    obtain ⟨u0, u1⟩ := cells2 V11.out
    have t0 := V13.out.cells 0
    rcases tb with _ | _
    · skip
      go_wp2_with fail
      refine bodyPost_ret (results_cell_row rfl _ _ (w.heap.size + 3) _ _ (0, 0) _ rfl I.out.fr Tryz.underlying137 rfl (by kernel_rfl)) rfl ?_
      exact ⟨by rw [← hR]; first | rfl | simp [nd3, Mc.ndOf, Mc.wt0, Mc.nd0], I.out.fb⟩
    rcases bk with _ | _
    · skip
      go_wp2_with fail
      refine bodyPost_ret (results_cell_row rfl _ _ (w.heap.size + 3) _ _ (0, 0) _ rfl I.out.fr Tryz.underlying137 rfl (by kernel_rfl)) rfl ?_
      exact ⟨by rw [← hR]; first | rfl | simp [nd3, Mc.ndOf, Mc.wt0, Mc.nd0], I.out.fb⟩
    go_wp2_with fail
    refine bodyPost_ret (results_cell_row rfl _ _ (w.heap.size + 3) _ _ (0, 0) _ rfl I.out.fr Tryz.underlying137 rfl (by kernel_rfl)) rfl ?_
    exact ⟨by rw [← hR]; first | rfl | simp [nd3, Mc.ndOf, Mc.wt0, Mc.nd0], I.out.fb⟩
  rw [if_neg k13] at hR
  have b13 : (y.kind == 13) = false := by rw [beq_eq_false_iff_ne]; exact k13
  by_cases k14 : y.kind = 14
  · rw [if_pos k14] at hR
    rw [k14] at m0
    go_upto_region 15 with fail
    by_cases x0 : 0 ≤ y.a
    case neg =>
      have hqf : qf = false := by rw [Bool.eq_false_iff]; intro h; exact x0 (hif.1 h).1
      subst hqf
      have VRs : (World.drew W).heap[w.heap.size + 3]? = some (.cells #[.int .i64 0, .int .i64 0, .bool false] 137 (0, 0)) := I.out.rs
      refine wp_region_held_drew (S := (fun W' => W'.cell? ⟨w.heap.size, 0, none⟩ = some (.slice x.TA m.types.length x.tc) ∧ W'.cell? ⟨w.heap.size, 1, none⟩ = some (.slice x.IA m.imps.length x.ic) ∧ W'.cell? ⟨w.heap.size, 2, none⟩ = some (.slice x.FA m.funcs.length x.fc) ∧ W'.cell? ⟨w.heap.size, 3, none⟩ = some (.slice x.BA m.tables.length x.bc) ∧ W'.cell? ⟨w.heap.size, 4, none⟩ = some (.slice x.MA m.mems x.mc) ∧ W'.cell? ⟨w.heap.size, 5, none⟩ = some (.slice x.GA m.globals.length x.gc) ∧ W'.cell? ⟨w.heap.size, 6, none⟩ = some (x.v6) ∧ W'.cell? ⟨w.heap.size, 7, none⟩ = some (x.v7) ∧ W'.cell? ⟨w.heap.size, 8, none⟩ = some (x.v8) ∧ W'.cell? ⟨w.heap.size, 9, none⟩ = some (.slice x.EA m.elems x.ec) ∧ W'.cell? ⟨w.heap.size, 10, none⟩ = some (.slice x.DA m.datas x.dc) ∧ W'.cell? ⟨w.heap.size, 11, none⟩ = some (x.v11) ∧ W'.cell? ⟨w.heap.size + 2, 2, none⟩ = some (.int .i64 y.a))) (by kernel_rfl) ?_ (fun hHeld0 => ?_)
      · exact ⟨g0, g1, g2, g3, g4, g5, g6, g7, g8, g9, g10, g11, m2⟩
      refine tj (i := 0) rfl ?_; (try simp only [zS, zN, zT, zC, zZ])
      refine tj (i := 1) rfl ?_; (try simp only [zS, zN, zT, zC, zZ])
      refine tj (i := 2) (v := .bool false) rfl ?_ (hy := by intro w hSw; (try dsimp only at hSw); go_simp; (try first | rfl | (simp [x0]) | omega)); (try simp only [zS, zN, zT, zC, zZ])
      refine tj (i := 3) rfl ?_; (try simp only [zS, zN, zT, zC, zZ])
      refine tjN (i := 4) rfl ?_; (try simp only [zS, zN, zT, zC, zZ])
      refine tjN (i := 5) rfl ?_; (try simp only [zS, zN, zT, zC, zZ])
      refine tjN (i := 6) rfl ?_; (try simp only [zS, zN, zT, zC, zZ])
      refine tjN (i := 7) rfl ?_; (try simp only [zS, zN, zT, zC, zZ])
      refine tjN (i := 8) rfl ?_; (try simp only [zS, zN, zT, zC, zZ])
      refine tj (i := 9) rfl ?_; (try simp only [zS, zN, zT, zC, zZ])
      refine tj (i := 10) rfl ?_; (try simp only [zS, zN, zT, zC, zZ])
      refine wpAnyH_ready (rs := [11]) (by kernel_rfl) (by simp) ?_
      refine AllReadyH.cons rfl (fun K hK => ?_) AllReadyH.nil
      (rw [if_pos (by rfl)]; refine wp_store_row 137 (.tmp 6) (.tmp 98) rfl (w.heap.size + 3) #[.int .i64 1, .int .i64 0, .bool false] rfl rfl 137 #[.int .i64 0, .int .i64 0, .bool false] VRs info_need rfl (by simp [Value.oneCell']) ?_; have gR := setRow_grown (World.drew W) (w.heap.size + 3) #[.int .i64 1, .int .i64 0, .bool false])
      (try dsimp only)
      refine hK.out _ _ ?_ (fun hHeld1 => ?_)
      · (try dsimp only); (repeat' refine And.intro ?_ ?_) <;> exact gR.cell (by assumption) (by intro e; injection e with e; dsimp only at e; omega)
      clear hK K hHeld0
      (try simp only [zS, zN, zT, zC, zZ])
      refine wpAnyH_done (by kernel_rfl) ?_ _
      (try dsimp only)
      repeat (first | go_values | go_skip | go_guarded | go_step | go_upon)
      refine bodyPost_ret (results_cell_row rfl _ _ (w.heap.size + 3) _ #[.int .i64 1, .int .i64 0, .bool false] (0, 0) _ rfl (setRow_heap (World.drew W) (w.heap.size + 3) #[.int .i64 0, .int .i64 0, .bool false] _ _ (0, 0) VRs) Tryz.underlying137 rfl (by kernel_rfl)) rfl ?_
      have BD := (I.out.bel.trans ((below_drewN W 1).mono I.out.bel.size))
      exact ⟨by rw [← hR]; first | rfl | simp [nd3, Mc.ndOf], below_grown BD (setRow_grown (World.drew W) (w.heap.size + 3) #[.int .i64 1, .int .i64 0, .bool false]) BD.size (by omega)⟩
    have hqf : decide (y.a < (nf : Int)) = qf := by rw [Bool.eq_iff_iff, decide_eq_true_iff, hif]; exact ⟨fun h => ⟨x0, h⟩, fun h => h.2⟩
    have VRs : (World.drew W).heap[w.heap.size + 3]? = some (.cells #[.int .i64 0, .int .i64 0, .bool false] 137 (0, 0)) := I.out.rs
    refine wp_region_held_drew (S := (fun W' => W'.cell? ⟨w.heap.size, 0, none⟩ = some (.slice x.TA m.types.length x.tc) ∧ W'.cell? ⟨w.heap.size, 1, none⟩ = some (.slice x.IA m.imps.length x.ic) ∧ W'.cell? ⟨w.heap.size, 2, none⟩ = some (.slice x.FA m.funcs.length x.fc) ∧ W'.cell? ⟨w.heap.size, 3, none⟩ = some (.slice x.BA m.tables.length x.bc) ∧ W'.cell? ⟨w.heap.size, 4, none⟩ = some (.slice x.MA m.mems x.mc) ∧ W'.cell? ⟨w.heap.size, 5, none⟩ = some (.slice x.GA m.globals.length x.gc) ∧ W'.cell? ⟨w.heap.size, 6, none⟩ = some (x.v6) ∧ W'.cell? ⟨w.heap.size, 7, none⟩ = some (x.v7) ∧ W'.cell? ⟨w.heap.size, 8, none⟩ = some (x.v8) ∧ W'.cell? ⟨w.heap.size, 9, none⟩ = some (.slice x.EA m.elems x.ec) ∧ W'.cell? ⟨w.heap.size, 10, none⟩ = some (.slice x.DA m.datas x.dc) ∧ W'.cell? ⟨w.heap.size, 11, none⟩ = some (x.v11) ∧ W'.cell? ⟨w.heap.size + 2, 2, none⟩ = some (.int .i64 y.a))) (by kernel_rfl) ?_ (fun hHeld0 => ?_)
    · exact ⟨g0, g1, g2, g3, g4, g5, g6, g7, g8, g9, g10, g11, m2⟩
    refine tj (i := 0) rfl ?_; (try simp only [zS, zN, zT, zC, zZ])
    refine tj (i := 1) rfl ?_; (try simp only [zS, zN, zT, zC, zZ])
    refine tj (i := 2) (v := .bool true) rfl ?_ (hy := by intro w hSw; (try dsimp only at hSw); go_simp; (try first | rfl | (simp [x0]) | omega)); (try simp only [zS, zN, zT, zC, zZ])
    refine tj (i := 3) rfl ?_; (try simp only [zS, zN, zT, zC, zZ])
    refine tj (i := 4) rfl ?_; (try simp only [zS, zN, zT, zC, zZ])
    refine tj (i := 5) rfl ?_; (try simp only [zS, zN, zT, zC, zZ])
    refine tj (i := 6) rfl ?_; (try simp only [zS, zN, zT, zC, zZ])
    refine wpAnyH_ready (rs := [7]) (by kernel_rfl) (by simp) ?_
    refine AllReadyH.cons rfl (fun K hK => ?_) AllReadyH.nil
    go_simp
    (refine (HFs.out _ (I.out.ml.on (below_drewN W 1))).mono ?_; rintro e w5 ⟨rfl, hb⟩; have J5 := Lib.hid (I.out.below ((below_drewN W 1).trans (hb.mono (Nat.le_refl _)))); clear hb g0 g1 g2 g3 g4 g5 g6 g7 g8 g9 g10 g11 m0 m1 m2 m3 m4 m5 m6 m7 m8 r0 r1 r2 z0 z1 z2 hlt y0 y1 y2 y3; obtain ⟨⟨g0, g1, g2, g3, g4, g5⟩, g6, g7, g8, g9, g10, g11⟩ := mdA_cells J5.out.md; obtain ⟨m0, m1, m2, m3, m4, m5, m6, m7, m8⟩ := miV_cells J5.out.mi; obtain ⟨r0, r1, r2, z0, z1, z2⟩ := cells3f J5.out.rs; have hlt := J5.out.rs.lt; obtain ⟨y0, y1, y2, y3⟩ := mfV_cells J5.out.mf; have VR0 : w5.heap[w.heap.size + 3]? = some (.cells #[.int .i64 0, .int .i64 0, .bool false] 137 (0, 0)) := J5.out.rs)
    (try dsimp only)
    refine hK.out _ _ ?_ (fun hHeld1 => ?_)
    · exact ⟨g0, g1, g2, g3, g4, g5, g6, g7, g8, g9, g10, g11, m2⟩
    clear hK K hHeld0
    (try simp only [zS, zN, zT, zC, zZ])
    refine tj (i := 8) (v := .bool qf) rfl ?_ (hy := by intro w hSw; (try dsimp only at hSw); go_simp; (try first | rfl | (simp [hqf]) | omega)); (try simp only [zS, zN, zT, zC, zZ])
    refine tj (i := 9) rfl ?_; (try simp only [zS, zN, zT, zC, zZ])
    refine tj (i := 10) rfl ?_; (try simp only [zS, zN, zT, zC, zZ])
    refine wpAnyH_ready (rs := [11]) (by kernel_rfl) (by simp) ?_
    refine AllReadyH.cons rfl (fun K hK => ?_) AllReadyH.nil
    (rw [if_pos (by rfl)]; refine wp_store_row 137 (.tmp 6) (.tmp 98) rfl (w.heap.size + 3) #[.int .i64 1, .int .i64 0, .bool qf] rfl rfl 137 #[.int .i64 0, .int .i64 0, .bool false] VR0 info_need rfl (by simp [Value.oneCell']) ?_; have gR := setRow_grown w5 (w.heap.size + 3) #[.int .i64 1, .int .i64 0, .bool qf])
    (try dsimp only)
    refine hK.out _ _ ?_ (fun hHeld2 => ?_)
    · (try dsimp only); (repeat' refine And.intro ?_ ?_) <;> exact gR.cell (by assumption) (by intro e; injection e with e; dsimp only at e; omega)
    clear hK K hHeld1
    (try simp only [zS, zN, zT, zC, zZ])
    refine wpAnyH_done (by kernel_rfl) ?_ _
    (try dsimp only)
    repeat (first | go_values | go_skip | go_guarded | go_step | go_upon)
    refine bodyPost_ret (results_cell_row rfl _ _ (w.heap.size + 3) _ #[.int .i64 1, .int .i64 0, .bool qf] (0, 0) _ rfl (setRow_heap w5 (w.heap.size + 3) #[.int .i64 0, .int .i64 0, .bool false] _ _ (0, 0) VR0) Tryz.underlying137 rfl (by kernel_rfl)) rfl ?_
    have BD := J5.out.bel
    exact ⟨by rw [← hR]; first | rfl | simp [nd3, Mc.ndOf], below_grown BD (setRow_grown w5 (w.heap.size + 3) #[.int .i64 1, .int .i64 0, .bool qf]) BD.size (by omega)⟩
  rw [if_neg k14] at hR
  have b14 : (y.kind == 14) = false := by rw [beq_eq_false_iff_ne]; exact k14
  clear hif hpl hwn HFs HTy HTb V7 V9 u0 u1 t0 t1
  by_cases k18 : y.kind = 18
  · rw [if_pos k18] at hR
    rw [k18] at m0
    rcases d1 : decide (1 ≤ y.a) with _ | _
    all_goals rw [d1] at hR
    · skip
      go_wp2_with fail
      refine bodyPost_ret (results_cell_row rfl _ _ (w.heap.size + 3) _ _ (0, 0) _ rfl I.out.fr Tryz.underlying137 rfl (by kernel_rfl)) rfl ?_
      exact ⟨by rw [← hR]; first | rfl | simp [nd3, Mc.ndOf, Mc.wt0, Mc.nd0], I.out.fb⟩
    go_wp2_with fail
    refine bodyPost_ret (results_cell_row rfl _ _ (w.heap.size + 3) _ _ (0, 0) _ rfl I.out.fr Tryz.underlying137 rfl (by kernel_rfl)) rfl ?_
    exact ⟨by rw [← hR]; first | rfl | simp [nd3, Mc.ndOf, Mc.wt0, Mc.nd0], I.out.fb⟩
  rw [if_neg k18] at hR
  have b18 : (y.kind == 18) = false := by rw [beq_eq_false_iff_ne]; exact k18
  by_cases k19 : y.kind = 19
  · rw [if_pos k19] at hR
    rw [k19] at m0
    have e1 : (y.tos.length == 1) = ((y.tos.length : Int) == 1) := by rw [Bool.eq_iff_iff]; simp <;> omega
    rw [e1] at hR
    go_wp2_with fail
    refine bodyPost_ret (results_cell_row rfl _ _ (w.heap.size + 3) _ _ (0, 0) _ rfl I.out.fr Tryz.underlying137 rfl (by kernel_rfl)) rfl ?_
    exact ⟨by rw [← hR]; first | rfl | simp [nd3, Mc.ndOf, Mc.wt0, Mc.nd0], I.out.fb⟩
  rw [if_neg k19] at hR
  have b19 : (y.kind == 19) = false := by rw [beq_eq_false_iff_ne]; exact k19
  by_cases k20 : y.kind = 20
  · rw [if_pos k20] at hR
    rw [k20] at m0
    have e1 : (y.tos.length == 1) = ((y.tos.length : Int) == 1) := by rw [Bool.eq_iff_iff]; simp <;> omega
    rw [e1] at hR
    go_wp2_with fail
    refine bodyPost_ret (results_cell_row rfl _ _ (w.heap.size + 3) _ _ (0, 0) _ rfl I.out.fr Tryz.underlying137 rfl (by kernel_rfl)) rfl ?_
    exact ⟨by rw [← hR]; first | rfl | simp [nd3, Mc.ndOf, Mc.wt0, Mc.nd0], I.out.fb⟩
  rw [if_neg k20] at hR
  have b20 : (y.kind == 20) = false := by rw [beq_eq_false_iff_ne]; exact k20
  by_cases k21 : y.kind = 21
  · rw [if_pos k21] at hR
    rw [k21] at m0
    have e1 : decide (1 ≤ y.tos.length) = decide ((1 : Int) ≤ (y.tos.length : Int)) := by congr 1; exact propext ⟨fun h => by omega, fun h => by omega⟩
    rw [e1] at hR
    go_wp2_with fail
    refine bodyPost_ret (results_cell_row rfl _ _ (w.heap.size + 3) _ _ (0, 0) _ rfl I.out.fr Tryz.underlying137 rfl (by kernel_rfl)) rfl ?_
    exact ⟨by rw [← hR]; first | rfl | simp [nd3, Mc.ndOf, Mc.wt0, Mc.nd0], I.out.fb⟩
  rw [if_neg k21] at hR
  have b21 : (y.kind == 21) = false := by rw [beq_eq_false_iff_ne]; exact k21
  by_cases k22 : y.kind = 22
  · rw [if_pos k22] at hR
    rw [k22] at m0
    go_wp2_with fail
    refine bodyPost_ret (results_cell_row rfl _ _ (w.heap.size + 3) _ _ (0, 0) _ rfl I.out.fr Tryz.underlying137 rfl (by kernel_rfl)) rfl ?_
    exact ⟨by rw [← hR]; first | rfl | simp [nd3, Mc.ndOf, Mc.wt0, Mc.nd0], I.out.fb⟩
  rw [if_neg k22] at hR
  have b22 : (y.kind == 22) = false := by rw [beq_eq_false_iff_ne]; exact k22
  by_cases k23 : y.kind = 23
  · rw [if_pos k23] at hR
    rw [k23] at m0
    rcases d1 : decide (1 ≤ y.trap) with _ | _
    all_goals rw [d1] at hR
    · skip
      go_wp2_with fail
      refine bodyPost_ret (results_cell_row rfl _ _ (w.heap.size + 3) _ _ (0, 0) _ rfl I.out.fr Tryz.underlying137 rfl (by kernel_rfl)) rfl ?_
      exact ⟨by rw [← hR]; first | rfl | simp [nd3, Mc.ndOf, Mc.wt0, Mc.nd0], I.out.fb⟩
    go_wp2_with fail
    refine bodyPost_ret (results_cell_row rfl _ _ (w.heap.size + 3) _ _ (0, 0) _ rfl I.out.fr Tryz.underlying137 rfl (by kernel_rfl)) rfl ?_
    exact ⟨by rw [← hR]; first | rfl | simp [nd3, Mc.ndOf, Mc.wt0, Mc.nd0], I.out.fb⟩
  rw [if_neg k23] at hR
  have b23 : (y.kind == 23) = false := by rw [beq_eq_false_iff_ne]; exact k23
  go_wp2_with fail
  refine bodyPost_ret (results_cell_row rfl _ _ (w.heap.size + 3) _ _ (0, 0) _ rfl I.out.fr Tryz.underlying137 rfl (by kernel_rfl)) rfl ?_
  exact ⟨by rw [← hR]; first | rfl | simp [nd3, Mc.ndOf, Mc.wt0, Mc.nd0], I.out.fb⟩
end Go.Proofs.YtadnfekogmjieaaGreatDoor
set_option linter.unusedVariables false
set_option linter.unusedSimpArgs false
namespace Go.Proofs.YtadnfekogmjieaaGreatDoor
open Go.RowKit
open Mc (Pl Mi Mf Th Wt Im Md)
set_option maxHeartbeats 16000000 in
set_option maxRecDepth 100000 in
theorem rneeds_any (m : Md) (hm : m.Few) (x : MX) (ho : x.One) (S : Nat → Prop) (y : Mi) (D : Option Addr) (c1 : Nat) (E : Option Addr) (c2 : Nat) (T : Option Addr) (c3 : Nat) (ra : InR y.a) (rb : InR y.b) (f : Mf) (P : Option Addr) (p1 : Nat) (R0 : Option Addr) (p2 : Nat) (C : Option Addr) (p3 : Nat) (w : World) (hl : MdL S w m x) :
    Calls Tryz.prog 62 #[.agg (mdA m x), .agg (mfV f P p1 R0 p2 C p3), .agg (miV y D c1 E c2 T c3)] w fun e w' => e = .returned (.agg (nd3 (Mc.need (Mc.thOf m) y f.rs.length))) ∧ Below w.heap.size w w' := by
  obtain ⟨R, hR⟩ : ∃ R, Mc.need (Mc.thOf m) y f.rs.length = R := ⟨_, rfl⟩
  rw [hR]
  have HN1 := Lib.hid (fun W => rnumbers_any y.op 1 W)
  have HN2 := Lib.hid (fun W => rnumbers_any y.op 2 W)
  have e1 : ((1 : Nat) : Int) = 1 := rfl
  have e2 : ((2 : Nat) : Int) = 2 := rfl
  simp only [e1] at HN1
  simp only [e2] at HN2
  have HMb := Lib.hid (fun W (h : MdL S W m x) => rmem_any m hm x ho S y.b W h)
  have HW := Lib.hid (fun W => rwidth_any y.op W)
  have HBu := Lib.hid (fun W (h : MdL S W m x) => rbulk_any m hm x ho S y D c1 E c2 T c3 W h)
  have HTa := Lib.hid (fun W (h : MdL S W m x) => rtablew_any m hm x ho S y D c1 E c2 T c3 W h)
  have HOt := Lib.hid (fun W (h : MdL S W m x) => rothers_any m hm x ho S y D c1 E c2 T c3 ra rb f P p1 R0 p2 C p3 W h)
  have hsm : Mc.smallN y = decide ((y.n : Int) < 4294967296) := by unfold Mc.smallN; congr 1; exact propext ⟨fun h => by omega, fun h => by omega⟩
  unfold mdA at HMb HBu HTa HOt
  unfold miV nd3 at HBu HTa HOt
  unfold mfV at HOt
  have I0 := Lib.hid (Q4.new (mdA m x) (mfV f P p1 R0 p2 C p3) (miV y D c1 E c2 T c3) hl)
  clear hl ho hm ra rb e1 e2
  go_enter Tryz.func62, Tryz.ntmps62
  go_upto_region 1 with fail
  refine at_code (F := fun W => Hid (Q4 S w W m x (mdA m x) (mfV f P p1 R0 p2 C p3) (miV y D c1 E c2 T c3))) I0 ?_
  clear I0
  intro W I
  obtain ⟨⟨g0, g1, g2, g3, g4, g5⟩, g6, g7, g8, g9, g10, g11⟩ := mdA_cells I.out.md
  obtain ⟨m0, m1, m2, m3, m4, m5, m6, m7, m8⟩ := miV_cells I.out.mi
  obtain ⟨r0, r1, r2, z0, z1, z2⟩ := cells3f I.out.rs
  have hlt := I.out.rs.lt
  obtain ⟨y0, y1, y2, y3⟩ := mfV_cells I.out.mf
  by_cases k0 : y.kind = 0
  · replace hR : (⟨1, 0, true⟩ : Mc.Nd) = R := by rw [← hR]; unfold Mc.need; rw [k0]; rfl
    rw [k0] at m0
    go_wp2_with fail
    refine bodyPost_ret (results_cell_row rfl _ _ (w.heap.size + 3) _ _ (0, 0) _ rfl I.out.fr Tryz.underlying137 rfl (by kernel_rfl)) rfl ?_
    exact ⟨by rw [← hR]; first | rfl | simp [nd3, Mc.ndOf, Mc.wt0, Mc.nd0], I.out.fb⟩
  have b0 : (y.kind == 0) = false := by rw [beq_eq_false_iff_ne]; exact k0
  by_cases k1 : y.kind = 1
  · replace hR : (⟨1, 1, true⟩ : Mc.Nd) = R := by rw [← hR]; unfold Mc.need; rw [k1]; rfl
    rw [k1] at m0
    go_wp2_with fail
    refine bodyPost_ret (results_cell_row rfl _ _ (w.heap.size + 3) _ _ (0, 0) _ rfl I.out.fr Tryz.underlying137 rfl (by kernel_rfl)) rfl ?_
    exact ⟨by rw [← hR]; first | rfl | simp [nd3, Mc.ndOf, Mc.wt0, Mc.nd0], I.out.fb⟩
  have b1 : (y.kind == 1) = false := by rw [beq_eq_false_iff_ne]; exact k1
  by_cases k15 : y.kind = 15
  · replace hR : (⟨1, 1, true⟩ : Mc.Nd) = R := by rw [← hR]; unfold Mc.need; rw [k15]; rfl
    rw [k15] at m0
    go_wp2_with fail
    refine bodyPost_ret (results_cell_row rfl _ _ (w.heap.size + 3) _ _ (0, 0) _ rfl I.out.fr Tryz.underlying137 rfl (by kernel_rfl)) rfl ?_
    exact ⟨by rw [← hR]; first | rfl | simp [nd3, Mc.ndOf, Mc.wt0, Mc.nd0], I.out.fb⟩
  have b15 : (y.kind == 15) = false := by rw [beq_eq_false_iff_ne]; exact k15
  by_cases k2 : y.kind = 2
  · replace hR : (⟨1, 1, Mc.numR2 y.op 1⟩ : Mc.Nd) = R := by rw [← hR]; unfold Mc.need; rw [k2]; rfl
    rw [k2] at m0
    go_wp2_with (go_at_call 112; with_reducible refine (HN1.out _).mono ?_; rintro e w5 ⟨rfl, hb⟩; have J := Lib.hid (I.out.below hb); clear hb I; obtain ⟨-, m1, m2, -⟩ := miV_cells J.out.mi; obtain ⟨r0, r1, r2, z0, z1, z2⟩ := cells3f J.out.rs; have hlt := J.out.rs.lt)
    refine bodyPost_ret (results_cell_row rfl _ _ (w.heap.size + 3) _ _ (0, 0) _ rfl J.out.fr Tryz.underlying137 rfl (by kernel_rfl)) rfl ?_
    exact ⟨by rw [← hR]; first | rfl | simp [nd3, Mc.ndOf, Mc.wt0, Mc.nd0], J.out.fb⟩
  have b2 : (y.kind == 2) = false := by rw [beq_eq_false_iff_ne]; exact k2
  by_cases k3 : y.kind = 3
  · replace hR : (⟨1, 2, Mc.numR2 y.op 2⟩ : Mc.Nd) = R := by rw [← hR]; unfold Mc.need; rw [k3]; rfl
    rw [k3] at m0
    go_wp2_with (go_at_call 112; with_reducible refine (HN2.out _).mono ?_; rintro e w5 ⟨rfl, hb⟩; have J := Lib.hid (I.out.below hb); clear hb I; obtain ⟨-, m1, m2, -⟩ := miV_cells J.out.mi; obtain ⟨r0, r1, r2, z0, z1, z2⟩ := cells3f J.out.rs; have hlt := J.out.rs.lt)
    refine bodyPost_ret (results_cell_row rfl _ _ (w.heap.size + 3) _ _ (0, 0) _ rfl J.out.fr Tryz.underlying137 rfl (by kernel_rfl)) rfl ?_
    exact ⟨by rw [← hR]; first | rfl | simp [nd3, Mc.ndOf, Mc.wt0, Mc.nd0], J.out.fb⟩
  have b3 : (y.kind == 3) = false := by rw [beq_eq_false_iff_ne]; exact k3
  by_cases k4 : y.kind = 4
  · replace hR : (⟨1, 3, true⟩ : Mc.Nd) = R := by rw [← hR]; unfold Mc.need; rw [k4]; rfl
    rw [k4] at m0
    go_wp2_with fail
    refine bodyPost_ret (results_cell_row rfl _ _ (w.heap.size + 3) _ _ (0, 0) _ rfl I.out.fr Tryz.underlying137 rfl (by kernel_rfl)) rfl ?_
    exact ⟨by rw [← hR]; first | rfl | simp [nd3, Mc.ndOf, Mc.wt0, Mc.nd0], I.out.fb⟩
  have b4 : (y.kind == 4) = false := by rw [beq_eq_false_iff_ne]; exact k4
  by_cases k5 : y.kind = 5
  · replace hR : (⟨1, 1, ((Mc.smallN y && Mc.inL y.b (Mc.thOf m).mems) && decide (0 < Mc.widR y.op)) && decide (y.op < 54)⟩ : Mc.Nd) = R := by rw [← hR]; unfold Mc.need; rw [k5]; rfl
    rw [k5] at m0
    rw [hsm] at hR
    obtain ⟨q, hq⟩ : ∃ q, Mc.inL y.b (Mc.thOf m).mems = q := ⟨_, rfl⟩
    simp only [hq] at HMb
    rw [hq] at hR
    obtain ⟨wd, hw⟩ : ∃ q, Mc.widR y.op = q := ⟨_, rfl⟩
    simp only [hw] at HW
    rw [hw] at hR
    clear hq hw
    rcases d1 : decide ((y.n : Int) < 4294967296) with _ | _
    all_goals rw [d1] at hR
    · skip
      go_wp2_with fail
      refine bodyPost_ret (results_cell_row rfl _ _ (w.heap.size + 3) _ _ (0, 0) _ rfl I.out.fr Tryz.underlying137 rfl (by kernel_rfl)) rfl ?_
      exact ⟨by rw [← hR]; first | rfl | simp [nd3, Mc.ndOf, Mc.wt0, Mc.nd0], I.out.fb⟩
    rcases q with _ | _
    · skip
      go_wp2_with (go_at_call 113; with_reducible refine (HMb.out _ I.out.ml).mono ?_; rintro e w5 ⟨rfl, hb⟩; have J := Lib.hid (I.out.below hb); clear hb I; obtain ⟨-, m1, m2, -⟩ := miV_cells J.out.mi; obtain ⟨r0, r1, r2, z0, z1, z2⟩ := cells3f J.out.rs; have hlt := J.out.rs.lt)
      refine bodyPost_ret (results_cell_row rfl _ _ (w.heap.size + 3) _ _ (0, 0) _ rfl J.out.fr Tryz.underlying137 rfl (by kernel_rfl)) rfl ?_
      exact ⟨by rw [← hR]; first | rfl | simp [nd3, Mc.ndOf, Mc.wt0, Mc.nd0], J.out.fb⟩
    rcases d2 : decide (0 < wd) with _ | _
    all_goals rw [d2] at hR
    · skip
      go_wp2_with (first | (go_at_call 113; with_reducible refine (HMb.out _ I.out.ml).mono ?_; rintro e w5 ⟨rfl, hb⟩; have J := Lib.hid (I.out.below hb); clear hb I; obtain ⟨-, m1, m2, -⟩ := miV_cells J.out.mi; obtain ⟨r0, r1, r2, z0, z1, z2⟩ := cells3f J.out.rs; have hlt := J.out.rs.lt) | (go_at_call 114; with_reducible refine (HW.out _).mono ?_; rintro e w6 ⟨rfl, hb⟩; have J2 := Lib.hid (J.out.below hb); clear hb J; obtain ⟨-, m1, m2, -⟩ := miV_cells J2.out.mi; obtain ⟨r0, r1, r2, z0, z1, z2⟩ := cells3f J2.out.rs; have hlt := J2.out.rs.lt))
      refine bodyPost_ret (results_cell_row rfl _ _ (w.heap.size + 3) _ _ (0, 0) _ rfl J2.out.fr Tryz.underlying137 rfl (by kernel_rfl)) rfl ?_
      exact ⟨by rw [← hR]; first | rfl | simp [nd3, Mc.ndOf, Mc.wt0, Mc.nd0], J2.out.fb⟩
    go_wp2_with (first | (go_at_call 113; with_reducible refine (HMb.out _ I.out.ml).mono ?_; rintro e w5 ⟨rfl, hb⟩; have J := Lib.hid (I.out.below hb); clear hb I; obtain ⟨-, m1, m2, -⟩ := miV_cells J.out.mi; obtain ⟨r0, r1, r2, z0, z1, z2⟩ := cells3f J.out.rs; have hlt := J.out.rs.lt) | (go_at_call 114; with_reducible refine (HW.out _).mono ?_; rintro e w6 ⟨rfl, hb⟩; have J2 := Lib.hid (J.out.below hb); clear hb J; obtain ⟨-, m1, m2, -⟩ := miV_cells J2.out.mi; obtain ⟨r0, r1, r2, z0, z1, z2⟩ := cells3f J2.out.rs; have hlt := J2.out.rs.lt))
    refine bodyPost_ret (results_cell_row rfl _ _ (w.heap.size + 3) _ _ (0, 0) _ rfl J2.out.fr Tryz.underlying137 rfl (by kernel_rfl)) rfl ?_
    exact ⟨by rw [← hR]; first | rfl | simp [nd3, Mc.ndOf, Mc.wt0, Mc.nd0], J2.out.fb⟩
  have b5 : (y.kind == 5) = false := by rw [beq_eq_false_iff_ne]; exact k5
  by_cases k6 : y.kind = 6
  · replace hR : (⟨0, 2, ((Mc.smallN y && Mc.inL y.b (Mc.thOf m).mems) && decide (0 < Mc.widR y.op)) && decide (54 ≤ y.op)⟩ : Mc.Nd) = R := by rw [← hR]; unfold Mc.need; rw [k6]; rfl
    rw [k6] at m0
    rw [hsm] at hR
    obtain ⟨q, hq⟩ : ∃ q, Mc.inL y.b (Mc.thOf m).mems = q := ⟨_, rfl⟩
    simp only [hq] at HMb
    rw [hq] at hR
    obtain ⟨wd, hw⟩ : ∃ q, Mc.widR y.op = q := ⟨_, rfl⟩
    simp only [hw] at HW
    rw [hw] at hR
    clear hq hw
    rcases d1 : decide ((y.n : Int) < 4294967296) with _ | _
    all_goals rw [d1] at hR
    · skip
      go_wp2_with fail
      refine bodyPost_ret (results_cell_row rfl _ _ (w.heap.size + 3) _ _ (0, 0) _ rfl I.out.fr Tryz.underlying137 rfl (by kernel_rfl)) rfl ?_
      exact ⟨by rw [← hR]; first | rfl | simp [nd3, Mc.ndOf, Mc.wt0, Mc.nd0], I.out.fb⟩
    rcases q with _ | _
    · skip
      go_wp2_with (go_at_call 113; with_reducible refine (HMb.out _ I.out.ml).mono ?_; rintro e w5 ⟨rfl, hb⟩; have J := Lib.hid (I.out.below hb); clear hb I; obtain ⟨-, m1, m2, -⟩ := miV_cells J.out.mi; obtain ⟨r0, r1, r2, z0, z1, z2⟩ := cells3f J.out.rs; have hlt := J.out.rs.lt)
      refine bodyPost_ret (results_cell_row rfl _ _ (w.heap.size + 3) _ _ (0, 0) _ rfl J.out.fr Tryz.underlying137 rfl (by kernel_rfl)) rfl ?_
      exact ⟨by rw [← hR]; first | rfl | simp [nd3, Mc.ndOf, Mc.wt0, Mc.nd0], J.out.fb⟩
    rcases d2 : decide (0 < wd) with _ | _
    all_goals rw [d2] at hR
    · skip
      go_wp2_with (first | (go_at_call 113; with_reducible refine (HMb.out _ I.out.ml).mono ?_; rintro e w5 ⟨rfl, hb⟩; have J := Lib.hid (I.out.below hb); clear hb I; obtain ⟨-, m1, m2, -⟩ := miV_cells J.out.mi; obtain ⟨r0, r1, r2, z0, z1, z2⟩ := cells3f J.out.rs; have hlt := J.out.rs.lt) | (go_at_call 114; with_reducible refine (HW.out _).mono ?_; rintro e w6 ⟨rfl, hb⟩; have J2 := Lib.hid (J.out.below hb); clear hb J; obtain ⟨-, m1, m2, -⟩ := miV_cells J2.out.mi; obtain ⟨r0, r1, r2, z0, z1, z2⟩ := cells3f J2.out.rs; have hlt := J2.out.rs.lt))
      refine bodyPost_ret (results_cell_row rfl _ _ (w.heap.size + 3) _ _ (0, 0) _ rfl J2.out.fr Tryz.underlying137 rfl (by kernel_rfl)) rfl ?_
      exact ⟨by rw [← hR]; first | rfl | simp [nd3, Mc.ndOf, Mc.wt0, Mc.nd0], J2.out.fb⟩
    go_wp2_with (first | (go_at_call 113; with_reducible refine (HMb.out _ I.out.ml).mono ?_; rintro e w5 ⟨rfl, hb⟩; have J := Lib.hid (I.out.below hb); clear hb I; obtain ⟨-, m1, m2, -⟩ := miV_cells J.out.mi; obtain ⟨r0, r1, r2, z0, z1, z2⟩ := cells3f J.out.rs; have hlt := J.out.rs.lt) | (go_at_call 114; with_reducible refine (HW.out _).mono ?_; rintro e w6 ⟨rfl, hb⟩; have J2 := Lib.hid (J.out.below hb); clear hb J; obtain ⟨-, m1, m2, -⟩ := miV_cells J2.out.mi; obtain ⟨r0, r1, r2, z0, z1, z2⟩ := cells3f J2.out.rs; have hlt := J2.out.rs.lt))
    refine bodyPost_ret (results_cell_row rfl _ _ (w.heap.size + 3) _ _ (0, 0) _ rfl J2.out.fr Tryz.underlying137 rfl (by kernel_rfl)) rfl ?_
    exact ⟨by rw [← hR]; first | rfl | simp [nd3, Mc.ndOf, Mc.wt0, Mc.nd0], J2.out.fb⟩
  have b6 : (y.kind == 6) = false := by rw [beq_eq_false_iff_ne]; exact k6
  by_cases k7 : y.kind = 7
  · replace hR : (⟨0, 1, ((Mc.smallN y && Mc.inL y.b (Mc.thOf m).mems) && decide (1 ≤ y.a)) && decide (y.a ≤ 8)⟩ : Mc.Nd) = R := by rw [← hR]; unfold Mc.need; rw [k7]; rfl
    rw [k7] at m0
    rw [hsm] at hR
    obtain ⟨q, hq⟩ : ∃ q, Mc.inL y.b (Mc.thOf m).mems = q := ⟨_, rfl⟩
    simp only [hq] at HMb
    rw [hq] at hR
    clear hq
    rcases d1 : decide ((y.n : Int) < 4294967296) with _ | _
    all_goals rw [d1] at hR
    · skip
      go_wp2_with fail
      refine bodyPost_ret (results_cell_row rfl _ _ (w.heap.size + 3) _ _ (0, 0) _ rfl I.out.fr Tryz.underlying137 rfl (by kernel_rfl)) rfl ?_
      exact ⟨by rw [← hR]; first | rfl | simp [nd3, Mc.ndOf, Mc.wt0, Mc.nd0], I.out.fb⟩
    rcases q with _ | _
    · skip
      go_wp2_with (go_at_call 113; with_reducible refine (HMb.out _ I.out.ml).mono ?_; rintro e w5 ⟨rfl, hb⟩; have J := Lib.hid (I.out.below hb); clear hb I; obtain ⟨-, m1, m2, -⟩ := miV_cells J.out.mi; obtain ⟨r0, r1, r2, z0, z1, z2⟩ := cells3f J.out.rs; have hlt := J.out.rs.lt)
      refine bodyPost_ret (results_cell_row rfl _ _ (w.heap.size + 3) _ _ (0, 0) _ rfl J.out.fr Tryz.underlying137 rfl (by kernel_rfl)) rfl ?_
      exact ⟨by rw [← hR]; first | rfl | simp [nd3, Mc.ndOf, Mc.wt0, Mc.nd0], J.out.fb⟩
    rcases d2 : decide (1 ≤ y.a) with _ | _
    all_goals rw [d2] at hR
    · skip
      go_wp2_with (go_at_call 113; with_reducible refine (HMb.out _ I.out.ml).mono ?_; rintro e w5 ⟨rfl, hb⟩; have J := Lib.hid (I.out.below hb); clear hb I; obtain ⟨-, m1, m2, -⟩ := miV_cells J.out.mi; obtain ⟨r0, r1, r2, z0, z1, z2⟩ := cells3f J.out.rs; have hlt := J.out.rs.lt)
      refine bodyPost_ret (results_cell_row rfl _ _ (w.heap.size + 3) _ _ (0, 0) _ rfl J.out.fr Tryz.underlying137 rfl (by kernel_rfl)) rfl ?_
      exact ⟨by rw [← hR]; first | rfl | simp [nd3, Mc.ndOf, Mc.wt0, Mc.nd0], J.out.fb⟩
    go_wp2_with (go_at_call 113; with_reducible refine (HMb.out _ I.out.ml).mono ?_; rintro e w5 ⟨rfl, hb⟩; have J := Lib.hid (I.out.below hb); clear hb I; obtain ⟨-, m1, m2, -⟩ := miV_cells J.out.mi; obtain ⟨r0, r1, r2, z0, z1, z2⟩ := cells3f J.out.rs; have hlt := J.out.rs.lt)
    refine bodyPost_ret (results_cell_row rfl _ _ (w.heap.size + 3) _ _ (0, 0) _ rfl J.out.fr Tryz.underlying137 rfl (by kernel_rfl)) rfl ?_
    exact ⟨by rw [← hR]; first | rfl | simp [nd3, Mc.ndOf, Mc.wt0, Mc.nd0], J.out.fb⟩
  have b7 : (y.kind == 7) = false := by rw [beq_eq_false_iff_ne]; exact k7
  by_cases k8 : y.kind = 8
  · replace hR : (⟨1, 0, Mc.inL y.b (Mc.thOf m).mems⟩ : Mc.Nd) = R := by rw [← hR]; unfold Mc.need; rw [k8]; rfl
    rw [k8] at m0
    go_wp2_with (go_at_call 113; with_reducible refine (HMb.out _ I.out.ml).mono ?_; rintro e w5 ⟨rfl, hb⟩; have J := Lib.hid (I.out.below hb); clear hb I; obtain ⟨-, m1, m2, -⟩ := miV_cells J.out.mi; obtain ⟨r0, r1, r2, z0, z1, z2⟩ := cells3f J.out.rs; have hlt := J.out.rs.lt)
    refine bodyPost_ret (results_cell_row rfl _ _ (w.heap.size + 3) _ _ (0, 0) _ rfl J.out.fr Tryz.underlying137 rfl (by kernel_rfl)) rfl ?_
    exact ⟨by rw [← hR]; first | rfl | simp [nd3, Mc.ndOf, Mc.wt0, Mc.nd0], J.out.fb⟩
  have b8 : (y.kind == 8) = false := by rw [beq_eq_false_iff_ne]; exact k8
  by_cases k9 : y.kind = 9
  · replace hR : (⟨1, 1, Mc.inL y.b (Mc.thOf m).mems⟩ : Mc.Nd) = R := by rw [← hR]; unfold Mc.need; rw [k9]; rfl
    rw [k9] at m0
    go_wp2_with (go_at_call 113; with_reducible refine (HMb.out _ I.out.ml).mono ?_; rintro e w5 ⟨rfl, hb⟩; have J := Lib.hid (I.out.below hb); clear hb I; obtain ⟨-, m1, m2, -⟩ := miV_cells J.out.mi; obtain ⟨r0, r1, r2, z0, z1, z2⟩ := cells3f J.out.rs; have hlt := J.out.rs.lt)
    refine bodyPost_ret (results_cell_row rfl _ _ (w.heap.size + 3) _ _ (0, 0) _ rfl J.out.fr Tryz.underlying137 rfl (by kernel_rfl)) rfl ?_
    exact ⟨by rw [← hR]; first | rfl | simp [nd3, Mc.ndOf, Mc.wt0, Mc.nd0], J.out.fb⟩
  have b9 : (y.kind == 9) = false := by rw [beq_eq_false_iff_ne]; exact k9
  by_cases k16 : y.kind = 16
  · replace hR : (Mc.ndOf (Mc.bulkW (Mc.thOf m) y) : Mc.Nd) = R := by rw [← hR]; unfold Mc.need; rw [k16]; rfl
    rw [k16] at m0
    rw [hR, k16] at HBu
    clear HTa HOt
    go_wp2_with (go_at_call 115; refine (HBu.out _ I.out.ml).mono ?_; rintro e w5 ⟨rfl, hb⟩; have J := Lib.hid (I.out.below hb); clear hb I; obtain ⟨-, m1, m2, -⟩ := miV_cells J.out.mi; obtain ⟨r0, r1, r2, z0, z1, z2⟩ := cells3f J.out.rs; have hlt := J.out.rs.lt)
    refine bodyPost_ret (results_cell_row rfl _ _ (w.heap.size + 3) _ _ (0, 0) _ rfl J.out.fr Tryz.underlying137 rfl (by kernel_rfl)) rfl ?_
    exact ⟨rfl, J.out.fb⟩
  have b16 : (y.kind == 16) = false := by rw [beq_eq_false_iff_ne]; exact k16
  by_cases k17 : y.kind = 17
  · replace hR : (Mc.ndOf (Mc.tabW (Mc.thOf m) y) : Mc.Nd) = R := by rw [← hR]; unfold Mc.need; rw [k17]; rfl
    rw [k17] at m0
    rw [hR, k17] at HTa
    clear HBu HOt
    go_wp2_with (go_at_call 116; refine (HTa.out _ I.out.ml).mono ?_; rintro e w5 ⟨rfl, hb⟩; have J := Lib.hid (I.out.below hb); clear hb I; obtain ⟨-, m1, m2, -⟩ := miV_cells J.out.mi; obtain ⟨r0, r1, r2, z0, z1, z2⟩ := cells3f J.out.rs; have hlt := J.out.rs.lt)
    refine bodyPost_ret (results_cell_row rfl _ _ (w.heap.size + 3) _ _ (0, 0) _ rfl J.out.fr Tryz.underlying137 rfl (by kernel_rfl)) rfl ?_
    exact ⟨rfl, J.out.fb⟩
  have b17 : (y.kind == 17) = false := by rw [beq_eq_false_iff_ne]; exact k17
  rw [Mc.need_oth (by unfold Mc.ownK; omega)] at hR
  rw [hR] at HOt
  clear HBu HTa
  go_wp2_with (go_at_call 117; refine (HOt.out _ I.out.ml).mono ?_; rintro e w5 ⟨rfl, hb⟩; have J := Lib.hid (I.out.below hb); clear hb I; obtain ⟨-, m1, m2, -⟩ := miV_cells J.out.mi; obtain ⟨r0, r1, r2, z0, z1, z2⟩ := cells3f J.out.rs; have hlt := J.out.rs.lt)
  refine bodyPost_ret (results_cell_row rfl _ _ (w.heap.size + 3) _ _ (0, 0) _ rfl J.out.fr Tryz.underlying137 rfl (by kernel_rfl)) rfl ?_
  exact ⟨rfl, J.out.fb⟩
end Go.Proofs.YtadnfekogmjieaaGreatDoor
