/-
  Layer 51, the laws: MachTurned. (Printed by gen_lw7.py.)
-/
import Derived.Test.YtadnfekogmjieaaGreatDoorETk
import Derived.Test.YtadnfekogmjieaaGreatDoorELT4
import Derived.Deep.Cut
import Derived.Deep.CutRange
set_option linter.unusedVariables false
set_option linter.unusedSimpArgs false
namespace Go.Proofs.YtadnfekogmjieaaGreatDoor
open Go.RowKit
open Mc (Pl Mi Mf Th Wt Im Md)
set_option maxHeartbeats 16000000 in
set_option maxRecDepth 100000 in
/-- MachTurned. -/
theorem turned_walk (m : Md) (x : MX) (ho : x.One) (hpl : ∀ f ∈ m.types, f.1.length ≤ 17592186044416 ∧ f.2.length ≤ 17592186044416) (f : Mf) (hq : ∀ x ∈ f.code, QMi x) (hsl : InR f.slots) (c3 : Nat) (hc3 : f.code.length ≤ c3) (wh : Nat) (at_ : Int) (hwh : wh ≤ 255) (hat : 0 ≤ at_ ∧ at_ ≤ 255)
    (P : Option Addr) (c1 : Nat) (R : Option Addr) (c2 : Nat) (C : Option Addr) (w : World) (G : GlobM w) (hml : MdL (fun g => g < w.heap.size) w m x) (h : MfAt (fun g => g < w.heap.size) w f P R C) (hcap : ∀ i, i < f.code.length → ∀ g o, C = some ⟨g, o, none⟩ → CapAt w g (o + i * 9)) :
    Calls Tryz.prog 8 #[.agg (mdA m x), .agg (mfV f P c1 R c2 C c3), .int .u8 (wh : Int), .int .u8 at_] w fun e w' => e = .returned (.bool true) ∧ Below w.heap.size w w' := by
  have I0 := Lib.hid (DSt.new (c1 := c1) (c2 := c2) (c3 := c3) hml h G)
  have HM := Lib.hid (fun W (h : MdL (fun g => g < w.heap.size) W m x) (hs : w.heap.size ≤ W.heap.size) => mdlight_any m x ho (fun g => g < w.heap.size) W (fun g hg => Nat.lt_of_lt_of_le hg hs) h)
  have HL := Lib.hid (fun W (h : MfAt (fun g => g < w.heap.size) W f P R C) => light_any f _ P c1 R c2 C c3 W h)
  have HA := Lib.hid (fun W (G : GlobM W) => alive_any W G)
  unfold mfV at HL
  unfold mdA at HM
  rcases hl : Mc.lightB f with _ | _
  · rw [hl] at HL
    clear hq hsl h G hl hml hpl hcap
    go_enter Tryz.func8, Tryz.ntmps8
    go_upto_region 1 with fail
    refine at_code (F := fun W => Hid (DSt w W m x (fun g => g < w.heap.size) f (fun g => g < w.heap.size) P c1 R c2 C c3)) I0 ?_
    clear I0
    intro W I
    obtain ⟨y0, y1, y2, y3⟩ := mfV_cells I.out.fs.var
    obtain ⟨⟨z0, z1, z2, z3, z4, z5⟩, z6, z7, z8, z9, z10, z11⟩ := mdA_cells I.out.md
    go_wp2_with (first | (go_at_call 9; (with_reducible refine (HM.out _ I.out.ml I.out.fs.bel.size).mono ?_); rintro e w1 ⟨⟨b, rfl, hlite⟩, hb⟩; have I1 := Lib.hid (I.out.step hb); have HLT := Lib.hid hlite; clear hb hlite I y0 y1 y2 y3 z0 z1 z2 z3 z4 z5 z6 z7 z8 z9 z10 z11; obtain ⟨y0, y1, y2, y3⟩ := mfV_cells I1.out.fs.var; obtain ⟨⟨z0, z1, z2, z3, z4, z5⟩, z6, z7, z8, z9, z10, z11⟩ := mdA_cells I1.out.md; rcases b with _ | _) | (go_at_call 10; (with_reducible refine (HL.out _ I1.out.fs.at_).mono ?_); rintro e w2 ⟨rfl, hb⟩; have I2 := Lib.hid (I1.out.step hb); clear hb I1) | (go_at_call 11; (with_reducible refine (HA.out _ I2.out.fs.glob).mono ?_); rintro e w9 ⟨rfl, hb⟩; have I3 := Lib.hid (I2.out.step hb); clear hb I2) | (go_at_call 11; (with_reducible refine (HA.out _ I1.out.fs.glob).mono ?_); rintro e w9 ⟨rfl, hb⟩; have I3 := Lib.hid (I1.out.step hb); clear hb I1))
    all_goals go_ret
    all_goals exact ⟨rfl, I3.out.fs.bel⟩
  rw [hl] at HL
  have hlt := Mc.lightB_iff.1 hl
  have hok := light_ok hlt hq hsl
  have HOK := Lib.hid hok
  have HCK := Lib.hid (fun (few : m.Few) (regs : Int) W (G : GlobM W) (hmd : MdL (fun g => g < w.heap.size) W m x) (h : MfAt (fun g => g < w.heap.size) W f P R C) => mcheck_any m few x ho f P c1 R c2 C c3 regs (by have := hlt.ps; omega) (by have := hlt.rs; omega) (by have := hlt.code; omega) (ok_lists hok) _ _ W G hmd.rd h)
  have HCT := Lib.hid (fun (few : m.Few) (cd : List Mi) (hgl : cd.length = f.code.length) (hgo : ∀ y ∈ cd, y.d.length ≤ 1000000 ∧ y.s.length ≤ 1000000 ∧ y.tos.length ≤ 1000000) (S : Nat → Prop) (C' : Option Addr) (c' : Nat) W (G : GlobM W) (hmd : MdL (fun g => g < w.heap.size) W m x) (h : MfAt S W ⟨f.ps, f.rs, f.slots, cd⟩ P R C') => mcheck_any m few x ho ⟨f.ps, f.rs, f.slots, cd⟩ P c1 R c2 C' c' 8 (by have := hlt.ps; show f.ps.length ≤ 1000; omega) (by have := hlt.rs; show f.rs.length ≤ 1000; omega) (by have := hlt.code; show cd.length ≤ 100000; omega) hgo _ S W G hmd.rd h)
  have HLI := Lib.hid hlt.ins
  have HCAP := Lib.hid hcap
  have HFEW := Lib.hid (fun (hl : m.Lite) => lite_few hl hpl)
  have hcl : f.code.length ≤ 80 := hlt.code
  unfold mfV at HCK HCT
  unfold mdA at HCK HCT
  dsimp only at HCT
  clear hlt hok hl hq hsl h G hml hpl hcap
  go_enter Tryz.func8, Tryz.ntmps8
  go_upto_region 1 with fail
  refine at_code (F := fun W => Hid (DSt w W m x (fun g => g < w.heap.size) f (fun g => g < w.heap.size) P c1 R c2 C c3)) I0 ?_
  clear I0
  intro W I
  obtain ⟨y0, y1, y2, y3⟩ := mfV_cells I.out.fs.var
  obtain ⟨⟨z0, z1, z2, z3, z4, z5⟩, z6, z7, z8, z9, z10, z11⟩ := mdA_cells I.out.md
  go_upto_if 24 with (first | (go_at_call 9; (with_reducible refine (HM.out _ I.out.ml I.out.fs.bel.size).mono ?_); rintro e w1 ⟨⟨b, rfl, hlite⟩, hb⟩; have I1 := Lib.hid (I.out.step hb); have HLT := Lib.hid hlite; clear hb hlite I y0 y1 y2 y3 z0 z1 z2 z3 z4 z5 z6 z7 z8 z9 z10 z11; obtain ⟨y0, y1, y2, y3⟩ := mfV_cells I1.out.fs.var; obtain ⟨⟨z0, z1, z2, z3, z4, z5⟩, z6, z7, z8, z9, z10, z11⟩ := mdA_cells I1.out.md; rcases b with _ | _) | (go_at_call 10; (with_reducible refine (HL.out _ I1.out.fs.at_).mono ?_); rintro e w2 ⟨rfl, hb⟩; have I2 := Lib.hid (I1.out.step hb); clear hb I1))
  · go_wp2_with (go_at_call 11; (with_reducible refine (HA.out _ I1.out.fs.glob).mono ?_); rintro e w9 ⟨rfl, hb⟩; have I3 := Lib.hid (I1.out.step hb); clear hb I1)
    go_ret
    exact ⟨rfl, I3.out.fs.bel⟩
  have few := HFEW.out (HLT.out (by trivial))
  replace HCK := Lib.hid (HCK.out few)
  replace HCT := Lib.hid (HCT.out few)
  clear few HFEW HLT HM HL
  obtain ⟨y0, y1, y2, y3⟩ := mfV_cells I2.out.fs.var
  obtain ⟨⟨z0, z1, z2, z3, z4, z5⟩, z6, z7, z8, z9, z10, z11⟩ := mdA_cells I2.out.md
  obtain ⟨Z, hZ⟩ : ∃ Z, Mc.check (Mc.thOf m) f 8 = Z := ⟨_, rfl⟩
  have HC1 := Lib.hid (HCK.out 8)
  rw [hZ] at HC1
  have HZ := Lib.hid hZ
  obtain ⟨Z1, Z2⟩ := Z
  dsimp only at HC1
  clear HCK hZ
  by_cases hz : Z2 = 0
  case neg =>
    have hz1 : (Z2 != 0) = true := by simpa using hz
    clear HCT HZ HLI HOK HCAP
    go_wp2_with (first | (go_at_call 12; (with_reducible refine (HC1.out _ I2.out.fs.glob I2.out.ml I2.out.fs.at_).mono ?_); rintro e w9 ⟨rfl, hb⟩; have I3 := Lib.hid (I2.out.step hb); clear hb I2 y0 y1 y2 y3 z0 z1 z2 z3 z4 z5 z6 z7 z8 z9 z10 z11; obtain ⟨y0, y1, y2, y3⟩ := mfV_cells I3.out.fs.var; obtain ⟨⟨z0, z1, z2, z3, z4, z5⟩, z6, z7, z8, z9, z10, z11⟩ := mdA_cells I3.out.md) | (go_at_call 11; (with_reducible refine (HA.out _ I3.out.fs.glob).mono ?_); rintro e w9 ⟨rfl, hb⟩; have I9 := Lib.hid (I3.out.step hb); clear hb I3))
    go_ret
    exact ⟨rfl, I9.out.fs.bel⟩
  subst hz
  have good := Mc.check_ok.1 (by rw [HZ.out])
  have HGD := Lib.hid good
  have hlen : 0 < f.code.length := List.length_pos_iff.2 (Mc.mfOk_iff.1 good.ok).2
  clear good HZ
  obtain ⟨k, HKM, hkl⟩ := tmod_pos hat.1 hlen
  have hne : ¬ ((f.code.length : Int) = 0) := by omega
  go_upto_region 6 with (go_at_call 12; (with_reducible refine (HC1.out _ I2.out.fs.glob I2.out.ml I2.out.fs.at_).mono ?_); rintro e w9 ⟨rfl, hb⟩; have I3 := Lib.hid (I2.out.step hb); clear hb I2 y0 y1 y2 y3 z0 z1 z2 z3 z4 z5 z6 z7 z8 z9 z10 z11; obtain ⟨y0, y1, y2, y3⟩ := mfV_cells I3.out.fs.var; obtain ⟨⟨z0, z1, z2, z3, z4, z5⟩, z6, z7, z8, z9, z10, z11⟩ := mdA_cells I3.out.md)
  have hk := HKM.out
  go_upto_region 7 with fail
  clear hk HC1
  have x0 : (k : Int) < (f.code.length : Int) := by omega
  have x1 : (0 : Int) ≤ (k : Int) := by omega
  obtain ⟨g, o, hA, hgS, -, hcl0⟩ := I3.out.fs.at_.code.get hkl
  obtain ⟨D, d1, E, d2, T, d3, ⟨f0, f1, f2, f3, f4, f5, f6, f7, f8⟩, hrd, hcp⟩ := hcl0.cellsC
  have hbc := fun j => I3.out.fs.bel.cell (p := ⟨g, o + k * 9 + j, none⟩) hgS
  have HC6 := Lib.hid ((HCAP.out k hkl g o hA).1 _ _ _ ((hbc 6).symm.trans f6))
  have HC7 := Lib.hid ((HCAP.out k hkl g o hA).2 _ _ _ ((hbc 7).symm.trans f7))
  clear hbc HCAP hgS
  have HRD := Lib.hid hrd
  have HAE := Lib.hid hA
  have HGX := Lib.hid (HGD.out.all _ (List.getElem_mem hkl))
  have HY := Lib.hid (HLI.out _ (List.getElem_mem hkl))
  have hlx := Lib.hid (f.code.getElem_mem hkl)
  rw [hA] at y3
  obtain ⟨y, hy⟩ : ∃ y, f.code[k] = y := ⟨_, rfl⟩
  simp only [hy] at f0 f1 f2 f3 f4 f5 f6 f7 f8 HRD hcp HGX HY HC6 HC7
  have HYK := Lib.hid hy
  clear hy hcl0 hrd hA hlx
  go_upto_region 8 with fail
  refine at_code (F := fun W => Hid (TSt w W m x f P c1 R c2 C c3 w9.heap.size y D d1 E d2 T d3)) (Lib.hid (TSt.of I3.out HRD.out hcp)) ?_
  obtain ⟨Kx, hKx⟩ : ∃ K, w9.heap.size = K := ⟨_, rfl⟩
  simp only [hKx]
  clear hKx I3 HRD hcp f0 f1 f2 f3 f4 f5 f6 f7 f8 y0 y1 y2 y3 z0 z1 z2 z3 z4 z5 z6 z7 z8 z9 z10 z11
  intro W4 T4
  have q7 : ∃ q : Nat, Int.tmod (wh : Int) 7 = (q : Int) ∧ q ≤ 6 := ⟨wh % 7, by rw [Int.tmod_eq_emod_of_nonneg (by omega)]; omega, by omega⟩
  obtain ⟨q, hqe, hq6⟩ := q7
  have HBAD := Lib.hid (fun (k : Nat) (h6 : 6 ≤ k → y.kind ≠ 23) => Mc.turn_bad HGX.out wh k h6)
  clear HGX
  go_upto_region 9 with fail
  have hKW := Lib.hid T4.out.xv.lt
  refine at_code (F := fun W => Hid (TSt w W m x f P c1 R c2 C c3 Kx y D d1 E d2 T d3) ∧ Hid (Var W W4.heap.size #[.bool false, .int .i64 8] 64)) ⟨Lib.hid (T4.out.step ((Below.refl _ _).alloc (Nat.le_refl _) _)), Lib.hid (Var.new _ _ _)⟩ ?_
  clear T4
  obtain ⟨Ko, hKo⟩ : ∃ K, W4.heap.size = K := ⟨_, rfl⟩
  simp only [hKo]
  have HNE : Hid (Ko ≠ Kx) := Lib.hid (by have := hKW.out; omega)
  clear hKo hKW
  rintro W5 ⟨T5, VO⟩
  go_upto_block 0 with fail
  clear hqe
  go_cut [] from 49 to 127 (fun wx => ∃ (y' : Mi) (D' : Option Addr) (e1 : Nat) (E' : Option Addr) (e2 : Nat) (T' : Option Addr) (e3 : Nat), Hid (TSt w wx m x f P c1 R c2 C c3 Kx y' D' e1 E' e2 T' e3) ∧ Hid (Mc.rightI (Mc.thOf m) y' f 8 = false) ∧ Hid (y'.d.length ≤ 1000 ∧ y'.s.length ≤ 1000 ∧ y'.tos.length ≤ 1000))
  case first =>
    obtain ⟨i0, hi0, hz0, hz1, hz2⟩ := info_parts info_place
    obtain ⟨j0, hj0, kz0, kz1, kz2⟩ := info_parts info_int
    obtain ⟨x0_, x1_, x2_, x3_, x4_, x5_, x6_, x7_, x8_⟩ := miV_cells T5.out.xv
    have hyl := HY.out
    have hq7 : q = 0 ∨ q = 1 ∨ q = 2 ∨ q = 3 ∨ q = 4 ∨ q = 5 ∨ q = 6 := by omega
    clear hq6
    rcases hq7 with rfl | rfl | rfl | rfl | rfl | rfl | rfl
    · skip
      go_upto_region 11 with fail
      have HB5 := Lib.hid (HBAD.out 0 (by omega))
      clear HBAD
      have SS : (fun W' => W'.cell? ⟨Ko, 0, none⟩ = some (.bool false) ∧ W'.cell? ⟨Ko, 1, none⟩ = some (.int .i64 8)) (World.drew W5) := ⟨VO.out.cells 0, VO.out.cells 1⟩
      (try dsimp only at SS)
      refine wp_region_held_drew (S := (fun W' => W'.cell? ⟨Ko, 0, none⟩ = some (.bool false) ∧ W'.cell? ⟨Ko, 1, none⟩ = some (.int .i64 8))) (by kernel_rfl) ?_ (fun hHeld0 => ?_)
      · first | assumption | go_keep
      refine at_anyH (F := fun W => Hid (TSt w W m x f P c1 R c2 C c3 Kx y D d1 E d2 T d3) ∧ Hid (Var W Ko #[.bool false, .int .i64 8] 64) ∧ (fun W' => W'.cell? ⟨Ko, 0, none⟩ = some (.bool false) ∧ W'.cell? ⟨Ko, 1, none⟩ = some (.int .i64 8)) W) ⟨Lib.hid (T5.out.step (below_drewN _ 1)), VO, hHeld0⟩ ?_
      clear hHeld0 T5 VO SS x0_ x1_ x2_ x3_ x4_ x5_ x6_ x7_ x8_
      rintro W0 ⟨T5, VO, hHeld0⟩
      (try dsimp only at hHeld0)
      have b0 := Below.refl W0.heap.size W0
      have hKo := VO.out.lt
      have hKx := T5.out.xv.lt
      have hne := HNE.out
      have hKf := T5.out.ds.fs.var.lt
      refine tk (i := 1) (oi := ⟨some 52, .fieldAddr 61 (.tmp 12) 5, 0, "law.go:132", #[], none⟩) rfl ?_; (try simp only [Act.put, List.setIfInBounds_toArray, List.set_cons_succ, List.set_cons_zero])
      refine tk (i := 4) (oi := ⟨some 55, .load 64 (.tmp 13), 64, "law.go:132", #[], none⟩) rfl ?_; (try simp only [Act.put, List.setIfInBounds_toArray, List.set_cons_succ, List.set_cons_zero])
      refine wpAnyH_ready (rs := [0, 2, 5]) (by kernel_rfl) (by simp) ?_
      refine (AllReadyH.cons (o := ⟨some 51, .buildSlice 57 0 #[], 57, "law.go:132", #[], none⟩) rfl (fun K hK => ?_) (AllReadyH.cons (o := ⟨some 53, .load 57 (.tmp 52), 57, "law.go:132", #[⟨1, .data⟩], none⟩) rfl (fun K hK => ?_) (AllReadyH.cons (o := ⟨some 56, .buildSlice 57 1 #[(0, .tmp 55)], 57, "law.go:132", #[⟨4, .data⟩], none⟩) rfl (fun K hK => ?_) AllReadyH.nil)))
      · skip
        go_simp
        (have b1 := b0.alloc b0.size (.cells #[] 64); have ow : (W0.alloc (.cells #[] 64)).ownsRow W0.heap.size 64 2 (.slice (some ⟨W0.heap.size, 0, none⟩) 0 0) 0 (([] : List Pl).flatMap encPl) := (by have hh := lit_own2 (base := W0.heap.size) (enc := encPl) (k := 2) (n := 0) (e := 64) (l := []) (cs := #[]) (W0) b0.size rfl encPl_len rfl (by omega); simpa using hh); have ss1 := vo_two VO b1)
        (try dsimp only)
        refine hK.out _ _ ?_ (fun hHeld1 => ?_)
        · first | trivial | ((try dsimp only); first | assumption | trivial | go_keep)
        clear hK K hHeld0
        (try simp only [Act.put, List.setIfInBounds_toArray, List.set_cons_succ, List.set_cons_zero])
        refine wpAnyH_ready (rs := [2, 5]) (by kernel_rfl) (by simp) ?_
        refine (AllReadyH.cons (o := ⟨some 53, .load 57 (.tmp 52), 57, "law.go:132", #[⟨1, .data⟩], none⟩) rfl (fun K hK => ?_) (AllReadyH.cons (o := ⟨some 56, .buildSlice 57 1 #[(0, .tmp 55)], 57, "law.go:132", #[⟨4, .data⟩], none⟩) rfl (fun K hK => ?_) AllReadyH.nil))
        · skip
          (have b2 := b1; have cl : ((W0.alloc (.cells #[] 64))).cell? ⟨Kx, 5, none⟩ = some (.slice D y.d.length d1) := (T5.out.xv.below b1 hKx).cells 5; go_simp; have ss2 := vo_two VO b2)
          (try dsimp only)
          refine hK.out _ _ ?_ (fun hHeld2 => ?_)
          · first | trivial | ((try dsimp only); first | assumption | trivial | go_keep)
          clear hK K hHeld1
          (try simp only [Act.put, List.setIfInBounds_toArray, List.set_cons_succ, List.set_cons_zero])
          refine wpAnyH_ready (rs := [3, 5]) (by kernel_rfl) (by simp) ?_
          refine (AllReadyH.cons (o := ⟨some 54, .call { callee := .builtin .append, args := #[.tmp 51, .tmp 53], argTypes := #[57, 57] }, 57, "law.go:132", #[⟨0, .data⟩, ⟨2, .data⟩], none⟩) rfl (fun K hK => ?_) (AllReadyH.cons (o := ⟨some 56, .buildSlice 57 1 #[(0, .tmp 55)], 57, "law.go:132", #[⟨4, .data⟩], none⟩) rfl (fun K hK => ?_) AllReadyH.nil))
          · skip
            (refine step_appN Tryz.underlying57 hi0 hz0 hz1 hz2 rfl (by omega) encPl_len encPl_one _ rfl (.tmp 51) (.tmp 53) rfl W0.heap.size (.slice (some ⟨W0.heap.size, 0, none⟩) 0 0) 0 [] (by rfl) ow y.d y.d.length d1 D rfl (by rfl) (pl_row (RdP.on T5.out.rd.d b2)) y.d.length (by omega) y.d rfl (by omega) (by omega) b2.size ?_; intro A3 q3 w3 ow3 hg3 hob3; have b3 := b2.grown hg3 b2.size (fun j hj => (ow.lt j hj).1); have ow := ow3; have ss3 := vo_two VO b3)
            (try dsimp only)
            refine hK.out _ _ ?_ (fun hHeld3 => ?_)
            · first | trivial | ((try dsimp only); first | assumption | trivial | go_keep)
            clear hK K hHeld2
            (try simp only [Act.put, List.setIfInBounds_toArray, List.set_cons_succ, List.set_cons_zero])
            refine wpAnyH_ready (rs := [5]) (by kernel_rfl) (by simp) ?_
            refine (AllReadyH.cons (o := ⟨some 56, .buildSlice 57 1 #[(0, .tmp 55)], 57, "law.go:132", #[⟨4, .data⟩], none⟩) rfl (fun K hK => ?_) AllReadyH.nil)
            go_simp
            (have b4 := b3.alloc b3.size (.cells #[.bool false, .int .i64 8] 64); have vo : Var (w3.alloc (.cells #[.bool false, .int .i64 8] 64)) (w3.heap.size) #[.bool false, .int .i64 8] 64 := (by have hh := Var.new (w3) #[.bool false, .int .i64 8] 64; simpa using hh); have ow := ow.alloc (.cells #[.bool false, .int .i64 8] 64); have ss4 := vo_two VO b4)
            (try dsimp only)
            refine hK.out _ _ ?_ (fun hHeld4 => ?_)
            · first | trivial | ((try dsimp only); first | assumption | trivial | go_keep)
            clear hK K hHeld3
            (try simp only [Act.put, List.setIfInBounds_toArray, List.set_cons_succ, List.set_cons_zero])
            refine wpAnyH_ready (rs := [6]) (by kernel_rfl) (by simp) ?_
            refine (AllReadyH.cons (o := ⟨some 57, .call { callee := .builtin .append, args := #[.tmp 54, .tmp 56], argTypes := #[57, 57] }, 57, "law.go:132", #[⟨3, .data⟩, ⟨5, .data⟩, ⟨3, .chain⟩], none⟩) rfl (fun K hK => ?_) AllReadyH.nil)
            (refine step_appN Tryz.underlying57 hi0 hz0 hz1 hz2 rfl (by omega) encPl_len encPl_one _ rfl (.tmp 54) (.tmp 56) rfl W0.heap.size (.slice A3 y.d.length q3) y.d.length y.d (by rfl) ow [(⟨false, 8⟩ : Pl)] 1 1 (some ⟨w3.heap.size, 0, none⟩) rfl (by rfl) (block_reads (cs := #[.bool false, .int .i64 8]) (m := 1) (k := 2) rfl vo) (y.d.length + 1) rfl (y.d ++ [⟨false, 8⟩]) rfl (by omega) (by omega) b4.size ?_; intro A6 q6 w6 ow6 hg6 hob6; have b5 := b4.grown hg6 b4.size (fun j hj => (ow.lt j hj).1); have b6 := b5; have vx := T5.out.xv.below b6 hKx; have e7 := vx.cells 5; have z7 := vx.froz 5; have l7 := vx.lt; have ss5 := vo_two VO b6)
            (try dsimp only)
            refine hK.out _ _ ?_ (fun hHeld5 => ?_)
            · first | trivial | ((try dsimp only); first | assumption | trivial | go_keep)
            clear hK K hHeld4
            (try simp only [Act.put, List.setIfInBounds_toArray, List.set_cons_succ, List.set_cons_zero])
            refine tk (i := 7) (oi := ⟨some 58, .fieldAddr 61 (.tmp 12) 5, 0, "law.go:132", #[⟨0, .phase⟩, ⟨1, .phase⟩, ⟨2, .phase⟩, ⟨3, .phase⟩, ⟨4, .phase⟩, ⟨5, .phase⟩, ⟨6, .phase⟩], none⟩) rfl ?_; (try simp only [Act.put, List.setIfInBounds_toArray, List.set_cons_succ, List.set_cons_zero])
            refine wpAnyH_ready (rs := [8]) (by kernel_rfl) (by simp) ?_
            refine (AllReadyH.cons (o := ⟨none, .store 57 (.tmp 58) (.tmp 57), 0, "law.go:132", #[⟨7, .data⟩, ⟨6, .data⟩, ⟨6, .chain⟩, ⟨0, .phase⟩, ⟨1, .phase⟩, ⟨2, .phase⟩, ⟨3, .phase⟩, ⟨4, .phase⟩, ⟨5, .phase⟩, ⟨6, .phase⟩], none⟩) rfl (fun K hK => ?_) AllReadyH.nil)
            go_simp
            (have ss9 := vo_twoS VO b6 hne 5 (.slice A6 (y.d.length + 1) q6))
            (try dsimp only)
            refine hK.out _ _ ?_ (fun hHeld6 => ?_)
            · first | trivial | ((try dsimp only); first | assumption | trivial | go_keep)
            clear hK K hHeld5
            (try simp only [Act.put, List.setIfInBounds_toArray, List.set_cons_succ, List.set_cons_zero])
            refine wpAnyH_done (by kernel_rfl) ?_ _
            have hl6 : (y.d ++ [(⟨false, 8⟩ : Pl)]).length = y.d.length + 1 := by simp
            have hroom := own_room ow6
            have ow7 := ow6
            rw [← hl6] at ow7
            have HT := Lib.hid (T5.out.put b6 5 (.slice A6 (y.d.length + 1) q6) (y' := ⟨y.kind, y.op, y.a, y.b, y.n, y.d ++ [⟨false, 8⟩], y.s, y.tos, y.trap⟩) (D' := A6) (E' := E) (T' := T) (e1 := q6) (e2 := d2) (e3 := d3) (by simp [miV]) ⟨RdP.mono (own_pl ow7) (fun g _ hg => .inr (by omega)), RdP.on T5.out.rd.s b6, RdZ.on T5.out.rd.t b6⟩ (by rw [hl6]; exact hroom))
            (try dsimp only)
            repeat (first | go_values | go_skip | go_guarded | go_step | go_upon)
            go_meet
            exact ⟨_, A6, q6, E, d2, T, d3, HT, HB5, Lib.hid (by refine ⟨?_, ?_, ?_⟩ <;> (try simp only [List.length_append, List.length_cons, List.length_nil]) <;> omega)⟩
          · skip
            go_simp
            (have b3 := b2.alloc b2.size (.cells #[.bool false, .int .i64 8] 64); have vo : Var ((W0.alloc (.cells #[] 64)).alloc (.cells #[.bool false, .int .i64 8] 64)) (W0.heap.size + 1) #[.bool false, .int .i64 8] 64 := (by have hh := Var.new ((W0.alloc (.cells #[] 64))) #[.bool false, .int .i64 8] 64; simpa using hh); have ow := ow.alloc (.cells #[.bool false, .int .i64 8] 64); have ss3 := vo_two VO b3)
            (try dsimp only)
            refine hK.out _ _ ?_ (fun hHeld3 => ?_)
            · first | trivial | ((try dsimp only); first | assumption | trivial | go_keep)
            clear hK K hHeld2
            (try simp only [Act.put, List.setIfInBounds_toArray, List.set_cons_succ, List.set_cons_zero])
            refine wpAnyH_ready (rs := [3]) (by kernel_rfl) (by simp) ?_
            refine (AllReadyH.cons (o := ⟨some 54, .call { callee := .builtin .append, args := #[.tmp 51, .tmp 53], argTypes := #[57, 57] }, 57, "law.go:132", #[⟨0, .data⟩, ⟨2, .data⟩], none⟩) rfl (fun K hK => ?_) AllReadyH.nil)
            (refine step_appN Tryz.underlying57 hi0 hz0 hz1 hz2 rfl (by omega) encPl_len encPl_one _ rfl (.tmp 51) (.tmp 53) rfl W0.heap.size (.slice (some ⟨W0.heap.size, 0, none⟩) 0 0) 0 [] (by rfl) ow y.d y.d.length d1 D rfl (by rfl) (pl_row (RdP.on T5.out.rd.d b3)) y.d.length (by omega) y.d rfl (by omega) (by omega) b3.size ?_; intro A3 q3 w3 ow3 hg3 hob3; have b4 := b3.grown hg3 b3.size (fun j hj => (ow.lt j hj).1); have ow := ow3; have vo : Var w3 (W0.heap.size + 1) #[.bool false, .int .i64 8] 64 := var_stay vo (k := W0.heap.size) hg3 (by omega); have ss4 := vo_two VO b4)
            (try dsimp only)
            refine hK.out _ _ ?_ (fun hHeld4 => ?_)
            · first | trivial | ((try dsimp only); first | assumption | trivial | go_keep)
            clear hK K hHeld3
            (try simp only [Act.put, List.setIfInBounds_toArray, List.set_cons_succ, List.set_cons_zero])
            refine wpAnyH_ready (rs := [6]) (by kernel_rfl) (by simp) ?_
            refine (AllReadyH.cons (o := ⟨some 57, .call { callee := .builtin .append, args := #[.tmp 54, .tmp 56], argTypes := #[57, 57] }, 57, "law.go:132", #[⟨3, .data⟩, ⟨5, .data⟩, ⟨3, .chain⟩], none⟩) rfl (fun K hK => ?_) AllReadyH.nil)
            (refine step_appN Tryz.underlying57 hi0 hz0 hz1 hz2 rfl (by omega) encPl_len encPl_one _ rfl (.tmp 54) (.tmp 56) rfl W0.heap.size (.slice A3 y.d.length q3) y.d.length y.d (by rfl) ow [(⟨false, 8⟩ : Pl)] 1 1 (some ⟨W0.heap.size + 1, 0, none⟩) rfl (by rfl) (block_reads (cs := #[.bool false, .int .i64 8]) (m := 1) (k := 2) rfl vo) (y.d.length + 1) rfl (y.d ++ [⟨false, 8⟩]) rfl (by omega) (by omega) b4.size ?_; intro A6 q6 w6 ow6 hg6 hob6; have b5 := b4.grown hg6 b4.size (fun j hj => (ow.lt j hj).1); have b6 := b5; have vx := T5.out.xv.below b6 hKx; have e7 := vx.cells 5; have z7 := vx.froz 5; have l7 := vx.lt; have ss5 := vo_two VO b6)
            (try dsimp only)
            refine hK.out _ _ ?_ (fun hHeld5 => ?_)
            · first | trivial | ((try dsimp only); first | assumption | trivial | go_keep)
            clear hK K hHeld4
            (try simp only [Act.put, List.setIfInBounds_toArray, List.set_cons_succ, List.set_cons_zero])
            refine tk (i := 7) (oi := ⟨some 58, .fieldAddr 61 (.tmp 12) 5, 0, "law.go:132", #[⟨0, .phase⟩, ⟨1, .phase⟩, ⟨2, .phase⟩, ⟨3, .phase⟩, ⟨4, .phase⟩, ⟨5, .phase⟩, ⟨6, .phase⟩], none⟩) rfl ?_; (try simp only [Act.put, List.setIfInBounds_toArray, List.set_cons_succ, List.set_cons_zero])
            refine wpAnyH_ready (rs := [8]) (by kernel_rfl) (by simp) ?_
            refine (AllReadyH.cons (o := ⟨none, .store 57 (.tmp 58) (.tmp 57), 0, "law.go:132", #[⟨7, .data⟩, ⟨6, .data⟩, ⟨6, .chain⟩, ⟨0, .phase⟩, ⟨1, .phase⟩, ⟨2, .phase⟩, ⟨3, .phase⟩, ⟨4, .phase⟩, ⟨5, .phase⟩, ⟨6, .phase⟩], none⟩) rfl (fun K hK => ?_) AllReadyH.nil)
            go_simp
            (have ss9 := vo_twoS VO b6 hne 5 (.slice A6 (y.d.length + 1) q6))
            (try dsimp only)
            refine hK.out _ _ ?_ (fun hHeld6 => ?_)
            · first | trivial | ((try dsimp only); first | assumption | trivial | go_keep)
            clear hK K hHeld5
            (try simp only [Act.put, List.setIfInBounds_toArray, List.set_cons_succ, List.set_cons_zero])
            refine wpAnyH_done (by kernel_rfl) ?_ _
            have hl6 : (y.d ++ [(⟨false, 8⟩ : Pl)]).length = y.d.length + 1 := by simp
            have hroom := own_room ow6
            have ow7 := ow6
            rw [← hl6] at ow7
            have HT := Lib.hid (T5.out.put b6 5 (.slice A6 (y.d.length + 1) q6) (y' := ⟨y.kind, y.op, y.a, y.b, y.n, y.d ++ [⟨false, 8⟩], y.s, y.tos, y.trap⟩) (D' := A6) (E' := E) (T' := T) (e1 := q6) (e2 := d2) (e3 := d3) (by simp [miV]) ⟨RdP.mono (own_pl ow7) (fun g _ hg => .inr (by omega)), RdP.on T5.out.rd.s b6, RdZ.on T5.out.rd.t b6⟩ (by rw [hl6]; exact hroom))
            (try dsimp only)
            repeat (first | go_values | go_skip | go_guarded | go_step | go_upon)
            go_meet
            exact ⟨_, A6, q6, E, d2, T, d3, HT, HB5, Lib.hid (by refine ⟨?_, ?_, ?_⟩ <;> (try simp only [List.length_append, List.length_cons, List.length_nil]) <;> omega)⟩
        · skip
          go_simp
          (have b2 := b1.alloc b1.size (.cells #[.bool false, .int .i64 8] 64); have vo : Var ((W0.alloc (.cells #[] 64)).alloc (.cells #[.bool false, .int .i64 8] 64)) (W0.heap.size + 1) #[.bool false, .int .i64 8] 64 := (by have hh := Var.new ((W0.alloc (.cells #[] 64))) #[.bool false, .int .i64 8] 64; simpa using hh); have ow := ow.alloc (.cells #[.bool false, .int .i64 8] 64); have ss2 := vo_two VO b2)
          (try dsimp only)
          refine hK.out _ _ ?_ (fun hHeld2 => ?_)
          · first | trivial | ((try dsimp only); first | assumption | trivial | go_keep)
          clear hK K hHeld1
          (try simp only [Act.put, List.setIfInBounds_toArray, List.set_cons_succ, List.set_cons_zero])
          refine wpAnyH_ready (rs := [2]) (by kernel_rfl) (by simp) ?_
          refine (AllReadyH.cons (o := ⟨some 53, .load 57 (.tmp 52), 57, "law.go:132", #[⟨1, .data⟩], none⟩) rfl (fun K hK => ?_) AllReadyH.nil)
          (have b3 := b2; have cl : (((W0.alloc (.cells #[] 64)).alloc (.cells #[.bool false, .int .i64 8] 64))).cell? ⟨Kx, 5, none⟩ = some (.slice D y.d.length d1) := (T5.out.xv.below b2 hKx).cells 5; go_simp; have ss3 := vo_two VO b3)
          (try dsimp only)
          refine hK.out _ _ ?_ (fun hHeld3 => ?_)
          · first | trivial | ((try dsimp only); first | assumption | trivial | go_keep)
          clear hK K hHeld2
          (try simp only [Act.put, List.setIfInBounds_toArray, List.set_cons_succ, List.set_cons_zero])
          refine wpAnyH_ready (rs := [3]) (by kernel_rfl) (by simp) ?_
          refine (AllReadyH.cons (o := ⟨some 54, .call { callee := .builtin .append, args := #[.tmp 51, .tmp 53], argTypes := #[57, 57] }, 57, "law.go:132", #[⟨0, .data⟩, ⟨2, .data⟩], none⟩) rfl (fun K hK => ?_) AllReadyH.nil)
          (refine step_appN Tryz.underlying57 hi0 hz0 hz1 hz2 rfl (by omega) encPl_len encPl_one _ rfl (.tmp 51) (.tmp 53) rfl W0.heap.size (.slice (some ⟨W0.heap.size, 0, none⟩) 0 0) 0 [] (by rfl) ow y.d y.d.length d1 D rfl (by rfl) (pl_row (RdP.on T5.out.rd.d b3)) y.d.length (by omega) y.d rfl (by omega) (by omega) b3.size ?_; intro A3 q3 w3 ow3 hg3 hob3; have b4 := b3.grown hg3 b3.size (fun j hj => (ow.lt j hj).1); have ow := ow3; have vo : Var w3 (W0.heap.size + 1) #[.bool false, .int .i64 8] 64 := var_stay vo (k := W0.heap.size) hg3 (by omega); have ss4 := vo_two VO b4)
          (try dsimp only)
          refine hK.out _ _ ?_ (fun hHeld4 => ?_)
          · first | trivial | ((try dsimp only); first | assumption | trivial | go_keep)
          clear hK K hHeld3
          (try simp only [Act.put, List.setIfInBounds_toArray, List.set_cons_succ, List.set_cons_zero])
          refine wpAnyH_ready (rs := [6]) (by kernel_rfl) (by simp) ?_
          refine (AllReadyH.cons (o := ⟨some 57, .call { callee := .builtin .append, args := #[.tmp 54, .tmp 56], argTypes := #[57, 57] }, 57, "law.go:132", #[⟨3, .data⟩, ⟨5, .data⟩, ⟨3, .chain⟩], none⟩) rfl (fun K hK => ?_) AllReadyH.nil)
          (refine step_appN Tryz.underlying57 hi0 hz0 hz1 hz2 rfl (by omega) encPl_len encPl_one _ rfl (.tmp 54) (.tmp 56) rfl W0.heap.size (.slice A3 y.d.length q3) y.d.length y.d (by rfl) ow [(⟨false, 8⟩ : Pl)] 1 1 (some ⟨W0.heap.size + 1, 0, none⟩) rfl (by rfl) (block_reads (cs := #[.bool false, .int .i64 8]) (m := 1) (k := 2) rfl vo) (y.d.length + 1) rfl (y.d ++ [⟨false, 8⟩]) rfl (by omega) (by omega) b4.size ?_; intro A6 q6 w6 ow6 hg6 hob6; have b5 := b4.grown hg6 b4.size (fun j hj => (ow.lt j hj).1); have b6 := b5; have vx := T5.out.xv.below b6 hKx; have e7 := vx.cells 5; have z7 := vx.froz 5; have l7 := vx.lt; have ss5 := vo_two VO b6)
          (try dsimp only)
          refine hK.out _ _ ?_ (fun hHeld5 => ?_)
          · first | trivial | ((try dsimp only); first | assumption | trivial | go_keep)
          clear hK K hHeld4
          (try simp only [Act.put, List.setIfInBounds_toArray, List.set_cons_succ, List.set_cons_zero])
          refine tk (i := 7) (oi := ⟨some 58, .fieldAddr 61 (.tmp 12) 5, 0, "law.go:132", #[⟨0, .phase⟩, ⟨1, .phase⟩, ⟨2, .phase⟩, ⟨3, .phase⟩, ⟨4, .phase⟩, ⟨5, .phase⟩, ⟨6, .phase⟩], none⟩) rfl ?_; (try simp only [Act.put, List.setIfInBounds_toArray, List.set_cons_succ, List.set_cons_zero])
          refine wpAnyH_ready (rs := [8]) (by kernel_rfl) (by simp) ?_
          refine (AllReadyH.cons (o := ⟨none, .store 57 (.tmp 58) (.tmp 57), 0, "law.go:132", #[⟨7, .data⟩, ⟨6, .data⟩, ⟨6, .chain⟩, ⟨0, .phase⟩, ⟨1, .phase⟩, ⟨2, .phase⟩, ⟨3, .phase⟩, ⟨4, .phase⟩, ⟨5, .phase⟩, ⟨6, .phase⟩], none⟩) rfl (fun K hK => ?_) AllReadyH.nil)
          go_simp
          (have ss9 := vo_twoS VO b6 hne 5 (.slice A6 (y.d.length + 1) q6))
          (try dsimp only)
          refine hK.out _ _ ?_ (fun hHeld6 => ?_)
          · first | trivial | ((try dsimp only); first | assumption | trivial | go_keep)
          clear hK K hHeld5
          (try simp only [Act.put, List.setIfInBounds_toArray, List.set_cons_succ, List.set_cons_zero])
          refine wpAnyH_done (by kernel_rfl) ?_ _
          have hl6 : (y.d ++ [(⟨false, 8⟩ : Pl)]).length = y.d.length + 1 := by simp
          have hroom := own_room ow6
          have ow7 := ow6
          rw [← hl6] at ow7
          have HT := Lib.hid (T5.out.put b6 5 (.slice A6 (y.d.length + 1) q6) (y' := ⟨y.kind, y.op, y.a, y.b, y.n, y.d ++ [⟨false, 8⟩], y.s, y.tos, y.trap⟩) (D' := A6) (E' := E) (T' := T) (e1 := q6) (e2 := d2) (e3 := d3) (by simp [miV]) ⟨RdP.mono (own_pl ow7) (fun g _ hg => .inr (by omega)), RdP.on T5.out.rd.s b6, RdZ.on T5.out.rd.t b6⟩ (by rw [hl6]; exact hroom))
          (try dsimp only)
          repeat (first | go_values | go_skip | go_guarded | go_step | go_upon)
          go_meet
          exact ⟨_, A6, q6, E, d2, T, d3, HT, HB5, Lib.hid (by refine ⟨?_, ?_, ?_⟩ <;> (try simp only [List.length_append, List.length_cons, List.length_nil]) <;> omega)⟩
      · skip
        (have b1 := b0; have cl : (W0).cell? ⟨Kx, 5, none⟩ = some (.slice D y.d.length d1) := (T5.out.xv.below b0 hKx).cells 5; go_simp; have ss1 := vo_two VO b1)
        (try dsimp only)
        refine hK.out _ _ ?_ (fun hHeld1 => ?_)
        · first | trivial | ((try dsimp only); first | assumption | trivial | go_keep)
        clear hK K hHeld0
        (try simp only [Act.put, List.setIfInBounds_toArray, List.set_cons_succ, List.set_cons_zero])
        refine wpAnyH_ready (rs := [0, 5]) (by kernel_rfl) (by simp) ?_
        refine (AllReadyH.cons (o := ⟨some 51, .buildSlice 57 0 #[], 57, "law.go:132", #[], none⟩) rfl (fun K hK => ?_) (AllReadyH.cons (o := ⟨some 56, .buildSlice 57 1 #[(0, .tmp 55)], 57, "law.go:132", #[⟨4, .data⟩], none⟩) rfl (fun K hK => ?_) AllReadyH.nil))
        · skip
          go_simp
          (have b2 := b1.alloc b1.size (.cells #[] 64); have ow : (W0.alloc (.cells #[] 64)).ownsRow W0.heap.size 64 2 (.slice (some ⟨W0.heap.size, 0, none⟩) 0 0) 0 (([] : List Pl).flatMap encPl) := (by have hh := lit_own2 (base := W0.heap.size) (enc := encPl) (k := 2) (n := 0) (e := 64) (l := []) (cs := #[]) (W0) b1.size rfl encPl_len rfl (by omega); simpa using hh); have ss2 := vo_two VO b2)
          (try dsimp only)
          refine hK.out _ _ ?_ (fun hHeld2 => ?_)
          · first | trivial | ((try dsimp only); first | assumption | trivial | go_keep)
          clear hK K hHeld1
          (try simp only [Act.put, List.setIfInBounds_toArray, List.set_cons_succ, List.set_cons_zero])
          refine wpAnyH_ready (rs := [3, 5]) (by kernel_rfl) (by simp) ?_
          refine (AllReadyH.cons (o := ⟨some 54, .call { callee := .builtin .append, args := #[.tmp 51, .tmp 53], argTypes := #[57, 57] }, 57, "law.go:132", #[⟨0, .data⟩, ⟨2, .data⟩], none⟩) rfl (fun K hK => ?_) (AllReadyH.cons (o := ⟨some 56, .buildSlice 57 1 #[(0, .tmp 55)], 57, "law.go:132", #[⟨4, .data⟩], none⟩) rfl (fun K hK => ?_) AllReadyH.nil))
          · skip
            (refine step_appN Tryz.underlying57 hi0 hz0 hz1 hz2 rfl (by omega) encPl_len encPl_one _ rfl (.tmp 51) (.tmp 53) rfl W0.heap.size (.slice (some ⟨W0.heap.size, 0, none⟩) 0 0) 0 [] (by rfl) ow y.d y.d.length d1 D rfl (by rfl) (pl_row (RdP.on T5.out.rd.d b2)) y.d.length (by omega) y.d rfl (by omega) (by omega) b2.size ?_; intro A3 q3 w3 ow3 hg3 hob3; have b3 := b2.grown hg3 b2.size (fun j hj => (ow.lt j hj).1); have ow := ow3; have ss3 := vo_two VO b3)
            (try dsimp only)
            refine hK.out _ _ ?_ (fun hHeld3 => ?_)
            · first | trivial | ((try dsimp only); first | assumption | trivial | go_keep)
            clear hK K hHeld2
            (try simp only [Act.put, List.setIfInBounds_toArray, List.set_cons_succ, List.set_cons_zero])
            refine wpAnyH_ready (rs := [5]) (by kernel_rfl) (by simp) ?_
            refine (AllReadyH.cons (o := ⟨some 56, .buildSlice 57 1 #[(0, .tmp 55)], 57, "law.go:132", #[⟨4, .data⟩], none⟩) rfl (fun K hK => ?_) AllReadyH.nil)
            go_simp
            (have b4 := b3.alloc b3.size (.cells #[.bool false, .int .i64 8] 64); have vo : Var (w3.alloc (.cells #[.bool false, .int .i64 8] 64)) (w3.heap.size) #[.bool false, .int .i64 8] 64 := (by have hh := Var.new (w3) #[.bool false, .int .i64 8] 64; simpa using hh); have ow := ow.alloc (.cells #[.bool false, .int .i64 8] 64); have ss4 := vo_two VO b4)
            (try dsimp only)
            refine hK.out _ _ ?_ (fun hHeld4 => ?_)
            · first | trivial | ((try dsimp only); first | assumption | trivial | go_keep)
            clear hK K hHeld3
            (try simp only [Act.put, List.setIfInBounds_toArray, List.set_cons_succ, List.set_cons_zero])
            refine wpAnyH_ready (rs := [6]) (by kernel_rfl) (by simp) ?_
            refine (AllReadyH.cons (o := ⟨some 57, .call { callee := .builtin .append, args := #[.tmp 54, .tmp 56], argTypes := #[57, 57] }, 57, "law.go:132", #[⟨3, .data⟩, ⟨5, .data⟩, ⟨3, .chain⟩], none⟩) rfl (fun K hK => ?_) AllReadyH.nil)
            (refine step_appN Tryz.underlying57 hi0 hz0 hz1 hz2 rfl (by omega) encPl_len encPl_one _ rfl (.tmp 54) (.tmp 56) rfl W0.heap.size (.slice A3 y.d.length q3) y.d.length y.d (by rfl) ow [(⟨false, 8⟩ : Pl)] 1 1 (some ⟨w3.heap.size, 0, none⟩) rfl (by rfl) (block_reads (cs := #[.bool false, .int .i64 8]) (m := 1) (k := 2) rfl vo) (y.d.length + 1) rfl (y.d ++ [⟨false, 8⟩]) rfl (by omega) (by omega) b4.size ?_; intro A6 q6 w6 ow6 hg6 hob6; have b5 := b4.grown hg6 b4.size (fun j hj => (ow.lt j hj).1); have b6 := b5; have vx := T5.out.xv.below b6 hKx; have e7 := vx.cells 5; have z7 := vx.froz 5; have l7 := vx.lt; have ss5 := vo_two VO b6)
            (try dsimp only)
            refine hK.out _ _ ?_ (fun hHeld5 => ?_)
            · first | trivial | ((try dsimp only); first | assumption | trivial | go_keep)
            clear hK K hHeld4
            (try simp only [Act.put, List.setIfInBounds_toArray, List.set_cons_succ, List.set_cons_zero])
            refine tk (i := 7) (oi := ⟨some 58, .fieldAddr 61 (.tmp 12) 5, 0, "law.go:132", #[⟨0, .phase⟩, ⟨1, .phase⟩, ⟨2, .phase⟩, ⟨3, .phase⟩, ⟨4, .phase⟩, ⟨5, .phase⟩, ⟨6, .phase⟩], none⟩) rfl ?_; (try simp only [Act.put, List.setIfInBounds_toArray, List.set_cons_succ, List.set_cons_zero])
            refine wpAnyH_ready (rs := [8]) (by kernel_rfl) (by simp) ?_
            refine (AllReadyH.cons (o := ⟨none, .store 57 (.tmp 58) (.tmp 57), 0, "law.go:132", #[⟨7, .data⟩, ⟨6, .data⟩, ⟨6, .chain⟩, ⟨0, .phase⟩, ⟨1, .phase⟩, ⟨2, .phase⟩, ⟨3, .phase⟩, ⟨4, .phase⟩, ⟨5, .phase⟩, ⟨6, .phase⟩], none⟩) rfl (fun K hK => ?_) AllReadyH.nil)
            go_simp
            (have ss9 := vo_twoS VO b6 hne 5 (.slice A6 (y.d.length + 1) q6))
            (try dsimp only)
            refine hK.out _ _ ?_ (fun hHeld6 => ?_)
            · first | trivial | ((try dsimp only); first | assumption | trivial | go_keep)
            clear hK K hHeld5
            (try simp only [Act.put, List.setIfInBounds_toArray, List.set_cons_succ, List.set_cons_zero])
            refine wpAnyH_done (by kernel_rfl) ?_ _
            have hl6 : (y.d ++ [(⟨false, 8⟩ : Pl)]).length = y.d.length + 1 := by simp
            have hroom := own_room ow6
            have ow7 := ow6
            rw [← hl6] at ow7
            have HT := Lib.hid (T5.out.put b6 5 (.slice A6 (y.d.length + 1) q6) (y' := ⟨y.kind, y.op, y.a, y.b, y.n, y.d ++ [⟨false, 8⟩], y.s, y.tos, y.trap⟩) (D' := A6) (E' := E) (T' := T) (e1 := q6) (e2 := d2) (e3 := d3) (by simp [miV]) ⟨RdP.mono (own_pl ow7) (fun g _ hg => .inr (by omega)), RdP.on T5.out.rd.s b6, RdZ.on T5.out.rd.t b6⟩ (by rw [hl6]; exact hroom))
            (try dsimp only)
            repeat (first | go_values | go_skip | go_guarded | go_step | go_upon)
            go_meet
            exact ⟨_, A6, q6, E, d2, T, d3, HT, HB5, Lib.hid (by refine ⟨?_, ?_, ?_⟩ <;> (try simp only [List.length_append, List.length_cons, List.length_nil]) <;> omega)⟩
          · skip
            go_simp
            (have b3 := b2.alloc b2.size (.cells #[.bool false, .int .i64 8] 64); have vo : Var ((W0.alloc (.cells #[] 64)).alloc (.cells #[.bool false, .int .i64 8] 64)) (W0.heap.size + 1) #[.bool false, .int .i64 8] 64 := (by have hh := Var.new ((W0.alloc (.cells #[] 64))) #[.bool false, .int .i64 8] 64; simpa using hh); have ow := ow.alloc (.cells #[.bool false, .int .i64 8] 64); have ss3 := vo_two VO b3)
            (try dsimp only)
            refine hK.out _ _ ?_ (fun hHeld3 => ?_)
            · first | trivial | ((try dsimp only); first | assumption | trivial | go_keep)
            clear hK K hHeld2
            (try simp only [Act.put, List.setIfInBounds_toArray, List.set_cons_succ, List.set_cons_zero])
            refine wpAnyH_ready (rs := [3]) (by kernel_rfl) (by simp) ?_
            refine (AllReadyH.cons (o := ⟨some 54, .call { callee := .builtin .append, args := #[.tmp 51, .tmp 53], argTypes := #[57, 57] }, 57, "law.go:132", #[⟨0, .data⟩, ⟨2, .data⟩], none⟩) rfl (fun K hK => ?_) AllReadyH.nil)
            (refine step_appN Tryz.underlying57 hi0 hz0 hz1 hz2 rfl (by omega) encPl_len encPl_one _ rfl (.tmp 51) (.tmp 53) rfl W0.heap.size (.slice (some ⟨W0.heap.size, 0, none⟩) 0 0) 0 [] (by rfl) ow y.d y.d.length d1 D rfl (by rfl) (pl_row (RdP.on T5.out.rd.d b3)) y.d.length (by omega) y.d rfl (by omega) (by omega) b3.size ?_; intro A3 q3 w3 ow3 hg3 hob3; have b4 := b3.grown hg3 b3.size (fun j hj => (ow.lt j hj).1); have ow := ow3; have vo : Var w3 (W0.heap.size + 1) #[.bool false, .int .i64 8] 64 := var_stay vo (k := W0.heap.size) hg3 (by omega); have ss4 := vo_two VO b4)
            (try dsimp only)
            refine hK.out _ _ ?_ (fun hHeld4 => ?_)
            · first | trivial | ((try dsimp only); first | assumption | trivial | go_keep)
            clear hK K hHeld3
            (try simp only [Act.put, List.setIfInBounds_toArray, List.set_cons_succ, List.set_cons_zero])
            refine wpAnyH_ready (rs := [6]) (by kernel_rfl) (by simp) ?_
            refine (AllReadyH.cons (o := ⟨some 57, .call { callee := .builtin .append, args := #[.tmp 54, .tmp 56], argTypes := #[57, 57] }, 57, "law.go:132", #[⟨3, .data⟩, ⟨5, .data⟩, ⟨3, .chain⟩], none⟩) rfl (fun K hK => ?_) AllReadyH.nil)
            (refine step_appN Tryz.underlying57 hi0 hz0 hz1 hz2 rfl (by omega) encPl_len encPl_one _ rfl (.tmp 54) (.tmp 56) rfl W0.heap.size (.slice A3 y.d.length q3) y.d.length y.d (by rfl) ow [(⟨false, 8⟩ : Pl)] 1 1 (some ⟨W0.heap.size + 1, 0, none⟩) rfl (by rfl) (block_reads (cs := #[.bool false, .int .i64 8]) (m := 1) (k := 2) rfl vo) (y.d.length + 1) rfl (y.d ++ [⟨false, 8⟩]) rfl (by omega) (by omega) b4.size ?_; intro A6 q6 w6 ow6 hg6 hob6; have b5 := b4.grown hg6 b4.size (fun j hj => (ow.lt j hj).1); have b6 := b5; have vx := T5.out.xv.below b6 hKx; have e7 := vx.cells 5; have z7 := vx.froz 5; have l7 := vx.lt; have ss5 := vo_two VO b6)
            (try dsimp only)
            refine hK.out _ _ ?_ (fun hHeld5 => ?_)
            · first | trivial | ((try dsimp only); first | assumption | trivial | go_keep)
            clear hK K hHeld4
            (try simp only [Act.put, List.setIfInBounds_toArray, List.set_cons_succ, List.set_cons_zero])
            refine tk (i := 7) (oi := ⟨some 58, .fieldAddr 61 (.tmp 12) 5, 0, "law.go:132", #[⟨0, .phase⟩, ⟨1, .phase⟩, ⟨2, .phase⟩, ⟨3, .phase⟩, ⟨4, .phase⟩, ⟨5, .phase⟩, ⟨6, .phase⟩], none⟩) rfl ?_; (try simp only [Act.put, List.setIfInBounds_toArray, List.set_cons_succ, List.set_cons_zero])
            refine wpAnyH_ready (rs := [8]) (by kernel_rfl) (by simp) ?_
            refine (AllReadyH.cons (o := ⟨none, .store 57 (.tmp 58) (.tmp 57), 0, "law.go:132", #[⟨7, .data⟩, ⟨6, .data⟩, ⟨6, .chain⟩, ⟨0, .phase⟩, ⟨1, .phase⟩, ⟨2, .phase⟩, ⟨3, .phase⟩, ⟨4, .phase⟩, ⟨5, .phase⟩, ⟨6, .phase⟩], none⟩) rfl (fun K hK => ?_) AllReadyH.nil)
            go_simp
            (have ss9 := vo_twoS VO b6 hne 5 (.slice A6 (y.d.length + 1) q6))
            (try dsimp only)
            refine hK.out _ _ ?_ (fun hHeld6 => ?_)
            · first | trivial | ((try dsimp only); first | assumption | trivial | go_keep)
            clear hK K hHeld5
            (try simp only [Act.put, List.setIfInBounds_toArray, List.set_cons_succ, List.set_cons_zero])
            refine wpAnyH_done (by kernel_rfl) ?_ _
            have hl6 : (y.d ++ [(⟨false, 8⟩ : Pl)]).length = y.d.length + 1 := by simp
            have hroom := own_room ow6
            have ow7 := ow6
            rw [← hl6] at ow7
            have HT := Lib.hid (T5.out.put b6 5 (.slice A6 (y.d.length + 1) q6) (y' := ⟨y.kind, y.op, y.a, y.b, y.n, y.d ++ [⟨false, 8⟩], y.s, y.tos, y.trap⟩) (D' := A6) (E' := E) (T' := T) (e1 := q6) (e2 := d2) (e3 := d3) (by simp [miV]) ⟨RdP.mono (own_pl ow7) (fun g _ hg => .inr (by omega)), RdP.on T5.out.rd.s b6, RdZ.on T5.out.rd.t b6⟩ (by rw [hl6]; exact hroom))
            (try dsimp only)
            repeat (first | go_values | go_skip | go_guarded | go_step | go_upon)
            go_meet
            exact ⟨_, A6, q6, E, d2, T, d3, HT, HB5, Lib.hid (by refine ⟨?_, ?_, ?_⟩ <;> (try simp only [List.length_append, List.length_cons, List.length_nil]) <;> omega)⟩
        · skip
          go_simp
          (have b2 := b1.alloc b1.size (.cells #[.bool false, .int .i64 8] 64); have vo : Var (W0.alloc (.cells #[.bool false, .int .i64 8] 64)) (W0.heap.size) #[.bool false, .int .i64 8] 64 := (by have hh := Var.new (W0) #[.bool false, .int .i64 8] 64; simpa using hh); have ss2 := vo_two VO b2)
          (try dsimp only)
          refine hK.out _ _ ?_ (fun hHeld2 => ?_)
          · first | trivial | ((try dsimp only); first | assumption | trivial | go_keep)
          clear hK K hHeld1
          (try simp only [Act.put, List.setIfInBounds_toArray, List.set_cons_succ, List.set_cons_zero])
          refine wpAnyH_ready (rs := [0]) (by kernel_rfl) (by simp) ?_
          refine (AllReadyH.cons (o := ⟨some 51, .buildSlice 57 0 #[], 57, "law.go:132", #[], none⟩) rfl (fun K hK => ?_) AllReadyH.nil)
          go_simp
          (have b3 := b2.alloc b2.size (.cells #[] 64); have ow : ((W0.alloc (.cells #[.bool false, .int .i64 8] 64)).alloc (.cells #[] 64)).ownsRow W0.heap.size 64 2 (.slice (some ⟨W0.heap.size + 1, 0, none⟩) 0 0) 0 (([] : List Pl).flatMap encPl) := (by have hh := lit_own2 (base := W0.heap.size) (enc := encPl) (k := 2) (n := 0) (e := 64) (l := []) (cs := #[]) ((W0.alloc (.cells #[.bool false, .int .i64 8] 64))) b2.size rfl encPl_len rfl (by omega); simpa using hh); have vo := vo.alloc (.cells #[] 64); have ss3 := vo_two VO b3)
          (try dsimp only)
          refine hK.out _ _ ?_ (fun hHeld3 => ?_)
          · first | trivial | ((try dsimp only); first | assumption | trivial | go_keep)
          clear hK K hHeld2
          (try simp only [Act.put, List.setIfInBounds_toArray, List.set_cons_succ, List.set_cons_zero])
          refine wpAnyH_ready (rs := [3]) (by kernel_rfl) (by simp) ?_
          refine (AllReadyH.cons (o := ⟨some 54, .call { callee := .builtin .append, args := #[.tmp 51, .tmp 53], argTypes := #[57, 57] }, 57, "law.go:132", #[⟨0, .data⟩, ⟨2, .data⟩], none⟩) rfl (fun K hK => ?_) AllReadyH.nil)
          (refine step_appN Tryz.underlying57 hi0 hz0 hz1 hz2 rfl (by omega) encPl_len encPl_one _ rfl (.tmp 51) (.tmp 53) rfl W0.heap.size (.slice (some ⟨W0.heap.size + 1, 0, none⟩) 0 0) 0 [] (by rfl) ow y.d y.d.length d1 D rfl (by rfl) (pl_row (RdP.on T5.out.rd.d b3)) y.d.length (by omega) y.d rfl (by omega) (by omega) b3.size ?_; intro A3 q3 w3 ow3 hg3 hob3; have b4 := b3.grown hg3 b3.size (fun j hj => (ow.lt j hj).1); have ow := ow3; have vo : Var w3 (W0.heap.size) #[.bool false, .int .i64 8] 64 := var_stay vo (k := W0.heap.size + 1) hg3 (by omega); have ss4 := vo_two VO b4)
          (try dsimp only)
          refine hK.out _ _ ?_ (fun hHeld4 => ?_)
          · first | trivial | ((try dsimp only); first | assumption | trivial | go_keep)
          clear hK K hHeld3
          (try simp only [Act.put, List.setIfInBounds_toArray, List.set_cons_succ, List.set_cons_zero])
          refine wpAnyH_ready (rs := [6]) (by kernel_rfl) (by simp) ?_
          refine (AllReadyH.cons (o := ⟨some 57, .call { callee := .builtin .append, args := #[.tmp 54, .tmp 56], argTypes := #[57, 57] }, 57, "law.go:132", #[⟨3, .data⟩, ⟨5, .data⟩, ⟨3, .chain⟩], none⟩) rfl (fun K hK => ?_) AllReadyH.nil)
          (refine step_appN Tryz.underlying57 hi0 hz0 hz1 hz2 rfl (by omega) encPl_len encPl_one _ rfl (.tmp 54) (.tmp 56) rfl W0.heap.size (.slice A3 y.d.length q3) y.d.length y.d (by rfl) ow [(⟨false, 8⟩ : Pl)] 1 1 (some ⟨W0.heap.size, 0, none⟩) rfl (by rfl) (block_reads (cs := #[.bool false, .int .i64 8]) (m := 1) (k := 2) rfl vo) (y.d.length + 1) rfl (y.d ++ [⟨false, 8⟩]) rfl (by omega) (by omega) b4.size ?_; intro A6 q6 w6 ow6 hg6 hob6; have b5 := b4.grown hg6 b4.size (fun j hj => (ow.lt j hj).1); have b6 := b5; have vx := T5.out.xv.below b6 hKx; have e7 := vx.cells 5; have z7 := vx.froz 5; have l7 := vx.lt; have ss5 := vo_two VO b6)
          (try dsimp only)
          refine hK.out _ _ ?_ (fun hHeld5 => ?_)
          · first | trivial | ((try dsimp only); first | assumption | trivial | go_keep)
          clear hK K hHeld4
          (try simp only [Act.put, List.setIfInBounds_toArray, List.set_cons_succ, List.set_cons_zero])
          refine tk (i := 7) (oi := ⟨some 58, .fieldAddr 61 (.tmp 12) 5, 0, "law.go:132", #[⟨0, .phase⟩, ⟨1, .phase⟩, ⟨2, .phase⟩, ⟨3, .phase⟩, ⟨4, .phase⟩, ⟨5, .phase⟩, ⟨6, .phase⟩], none⟩) rfl ?_; (try simp only [Act.put, List.setIfInBounds_toArray, List.set_cons_succ, List.set_cons_zero])
          refine wpAnyH_ready (rs := [8]) (by kernel_rfl) (by simp) ?_
          refine (AllReadyH.cons (o := ⟨none, .store 57 (.tmp 58) (.tmp 57), 0, "law.go:132", #[⟨7, .data⟩, ⟨6, .data⟩, ⟨6, .chain⟩, ⟨0, .phase⟩, ⟨1, .phase⟩, ⟨2, .phase⟩, ⟨3, .phase⟩, ⟨4, .phase⟩, ⟨5, .phase⟩, ⟨6, .phase⟩], none⟩) rfl (fun K hK => ?_) AllReadyH.nil)
          go_simp
          (have ss9 := vo_twoS VO b6 hne 5 (.slice A6 (y.d.length + 1) q6))
          (try dsimp only)
          refine hK.out _ _ ?_ (fun hHeld6 => ?_)
          · first | trivial | ((try dsimp only); first | assumption | trivial | go_keep)
          clear hK K hHeld5
          (try simp only [Act.put, List.setIfInBounds_toArray, List.set_cons_succ, List.set_cons_zero])
          refine wpAnyH_done (by kernel_rfl) ?_ _
          have hl6 : (y.d ++ [(⟨false, 8⟩ : Pl)]).length = y.d.length + 1 := by simp
          have hroom := own_room ow6
          have ow7 := ow6
          rw [← hl6] at ow7
          have HT := Lib.hid (T5.out.put b6 5 (.slice A6 (y.d.length + 1) q6) (y' := ⟨y.kind, y.op, y.a, y.b, y.n, y.d ++ [⟨false, 8⟩], y.s, y.tos, y.trap⟩) (D' := A6) (E' := E) (T' := T) (e1 := q6) (e2 := d2) (e3 := d3) (by simp [miV]) ⟨RdP.mono (own_pl ow7) (fun g _ hg => .inr (by omega)), RdP.on T5.out.rd.s b6, RdZ.on T5.out.rd.t b6⟩ (by rw [hl6]; exact hroom))
          (try dsimp only)
          repeat (first | go_values | go_skip | go_guarded | go_step | go_upon)
          go_meet
          exact ⟨_, A6, q6, E, d2, T, d3, HT, HB5, Lib.hid (by refine ⟨?_, ?_, ?_⟩ <;> (try simp only [List.length_append, List.length_cons, List.length_nil]) <;> omega)⟩
      · skip
        go_simp
        (have b1 := b0.alloc b0.size (.cells #[.bool false, .int .i64 8] 64); have vo : Var (W0.alloc (.cells #[.bool false, .int .i64 8] 64)) (W0.heap.size) #[.bool false, .int .i64 8] 64 := (by have hh := Var.new (W0) #[.bool false, .int .i64 8] 64; simpa using hh); have ss1 := vo_two VO b1)
        (try dsimp only)
        refine hK.out _ _ ?_ (fun hHeld1 => ?_)
        · first | trivial | ((try dsimp only); first | assumption | trivial | go_keep)
        clear hK K hHeld0
        (try simp only [Act.put, List.setIfInBounds_toArray, List.set_cons_succ, List.set_cons_zero])
        refine wpAnyH_ready (rs := [0, 2]) (by kernel_rfl) (by simp) ?_
        refine (AllReadyH.cons (o := ⟨some 51, .buildSlice 57 0 #[], 57, "law.go:132", #[], none⟩) rfl (fun K hK => ?_) (AllReadyH.cons (o := ⟨some 53, .load 57 (.tmp 52), 57, "law.go:132", #[⟨1, .data⟩], none⟩) rfl (fun K hK => ?_) AllReadyH.nil))
        · skip
          go_simp
          (have b2 := b1.alloc b1.size (.cells #[] 64); have ow : ((W0.alloc (.cells #[.bool false, .int .i64 8] 64)).alloc (.cells #[] 64)).ownsRow W0.heap.size 64 2 (.slice (some ⟨W0.heap.size + 1, 0, none⟩) 0 0) 0 (([] : List Pl).flatMap encPl) := (by have hh := lit_own2 (base := W0.heap.size) (enc := encPl) (k := 2) (n := 0) (e := 64) (l := []) (cs := #[]) ((W0.alloc (.cells #[.bool false, .int .i64 8] 64))) b1.size rfl encPl_len rfl (by omega); simpa using hh); have vo := vo.alloc (.cells #[] 64); have ss2 := vo_two VO b2)
          (try dsimp only)
          refine hK.out _ _ ?_ (fun hHeld2 => ?_)
          · first | trivial | ((try dsimp only); first | assumption | trivial | go_keep)
          clear hK K hHeld1
          (try simp only [Act.put, List.setIfInBounds_toArray, List.set_cons_succ, List.set_cons_zero])
          refine wpAnyH_ready (rs := [2]) (by kernel_rfl) (by simp) ?_
          refine (AllReadyH.cons (o := ⟨some 53, .load 57 (.tmp 52), 57, "law.go:132", #[⟨1, .data⟩], none⟩) rfl (fun K hK => ?_) AllReadyH.nil)
          (have b3 := b2; have cl : (((W0.alloc (.cells #[.bool false, .int .i64 8] 64)).alloc (.cells #[] 64))).cell? ⟨Kx, 5, none⟩ = some (.slice D y.d.length d1) := (T5.out.xv.below b2 hKx).cells 5; go_simp; have ss3 := vo_two VO b3)
          (try dsimp only)
          refine hK.out _ _ ?_ (fun hHeld3 => ?_)
          · first | trivial | ((try dsimp only); first | assumption | trivial | go_keep)
          clear hK K hHeld2
          (try simp only [Act.put, List.setIfInBounds_toArray, List.set_cons_succ, List.set_cons_zero])
          refine wpAnyH_ready (rs := [3]) (by kernel_rfl) (by simp) ?_
          refine (AllReadyH.cons (o := ⟨some 54, .call { callee := .builtin .append, args := #[.tmp 51, .tmp 53], argTypes := #[57, 57] }, 57, "law.go:132", #[⟨0, .data⟩, ⟨2, .data⟩], none⟩) rfl (fun K hK => ?_) AllReadyH.nil)
          (refine step_appN Tryz.underlying57 hi0 hz0 hz1 hz2 rfl (by omega) encPl_len encPl_one _ rfl (.tmp 51) (.tmp 53) rfl W0.heap.size (.slice (some ⟨W0.heap.size + 1, 0, none⟩) 0 0) 0 [] (by rfl) ow y.d y.d.length d1 D rfl (by rfl) (pl_row (RdP.on T5.out.rd.d b3)) y.d.length (by omega) y.d rfl (by omega) (by omega) b3.size ?_; intro A3 q3 w3 ow3 hg3 hob3; have b4 := b3.grown hg3 b3.size (fun j hj => (ow.lt j hj).1); have ow := ow3; have vo : Var w3 (W0.heap.size) #[.bool false, .int .i64 8] 64 := var_stay vo (k := W0.heap.size + 1) hg3 (by omega); have ss4 := vo_two VO b4)
          (try dsimp only)
          refine hK.out _ _ ?_ (fun hHeld4 => ?_)
          · first | trivial | ((try dsimp only); first | assumption | trivial | go_keep)
          clear hK K hHeld3
          (try simp only [Act.put, List.setIfInBounds_toArray, List.set_cons_succ, List.set_cons_zero])
          refine wpAnyH_ready (rs := [6]) (by kernel_rfl) (by simp) ?_
          refine (AllReadyH.cons (o := ⟨some 57, .call { callee := .builtin .append, args := #[.tmp 54, .tmp 56], argTypes := #[57, 57] }, 57, "law.go:132", #[⟨3, .data⟩, ⟨5, .data⟩, ⟨3, .chain⟩], none⟩) rfl (fun K hK => ?_) AllReadyH.nil)
          (refine step_appN Tryz.underlying57 hi0 hz0 hz1 hz2 rfl (by omega) encPl_len encPl_one _ rfl (.tmp 54) (.tmp 56) rfl W0.heap.size (.slice A3 y.d.length q3) y.d.length y.d (by rfl) ow [(⟨false, 8⟩ : Pl)] 1 1 (some ⟨W0.heap.size, 0, none⟩) rfl (by rfl) (block_reads (cs := #[.bool false, .int .i64 8]) (m := 1) (k := 2) rfl vo) (y.d.length + 1) rfl (y.d ++ [⟨false, 8⟩]) rfl (by omega) (by omega) b4.size ?_; intro A6 q6 w6 ow6 hg6 hob6; have b5 := b4.grown hg6 b4.size (fun j hj => (ow.lt j hj).1); have b6 := b5; have vx := T5.out.xv.below b6 hKx; have e7 := vx.cells 5; have z7 := vx.froz 5; have l7 := vx.lt; have ss5 := vo_two VO b6)
          (try dsimp only)
          refine hK.out _ _ ?_ (fun hHeld5 => ?_)
          · first | trivial | ((try dsimp only); first | assumption | trivial | go_keep)
          clear hK K hHeld4
          (try simp only [Act.put, List.setIfInBounds_toArray, List.set_cons_succ, List.set_cons_zero])
          refine tk (i := 7) (oi := ⟨some 58, .fieldAddr 61 (.tmp 12) 5, 0, "law.go:132", #[⟨0, .phase⟩, ⟨1, .phase⟩, ⟨2, .phase⟩, ⟨3, .phase⟩, ⟨4, .phase⟩, ⟨5, .phase⟩, ⟨6, .phase⟩], none⟩) rfl ?_; (try simp only [Act.put, List.setIfInBounds_toArray, List.set_cons_succ, List.set_cons_zero])
          refine wpAnyH_ready (rs := [8]) (by kernel_rfl) (by simp) ?_
          refine (AllReadyH.cons (o := ⟨none, .store 57 (.tmp 58) (.tmp 57), 0, "law.go:132", #[⟨7, .data⟩, ⟨6, .data⟩, ⟨6, .chain⟩, ⟨0, .phase⟩, ⟨1, .phase⟩, ⟨2, .phase⟩, ⟨3, .phase⟩, ⟨4, .phase⟩, ⟨5, .phase⟩, ⟨6, .phase⟩], none⟩) rfl (fun K hK => ?_) AllReadyH.nil)
          go_simp
          (have ss9 := vo_twoS VO b6 hne 5 (.slice A6 (y.d.length + 1) q6))
          (try dsimp only)
          refine hK.out _ _ ?_ (fun hHeld6 => ?_)
          · first | trivial | ((try dsimp only); first | assumption | trivial | go_keep)
          clear hK K hHeld5
          (try simp only [Act.put, List.setIfInBounds_toArray, List.set_cons_succ, List.set_cons_zero])
          refine wpAnyH_done (by kernel_rfl) ?_ _
          have hl6 : (y.d ++ [(⟨false, 8⟩ : Pl)]).length = y.d.length + 1 := by simp
          have hroom := own_room ow6
          have ow7 := ow6
          rw [← hl6] at ow7
          have HT := Lib.hid (T5.out.put b6 5 (.slice A6 (y.d.length + 1) q6) (y' := ⟨y.kind, y.op, y.a, y.b, y.n, y.d ++ [⟨false, 8⟩], y.s, y.tos, y.trap⟩) (D' := A6) (E' := E) (T' := T) (e1 := q6) (e2 := d2) (e3 := d3) (by simp [miV]) ⟨RdP.mono (own_pl ow7) (fun g _ hg => .inr (by omega)), RdP.on T5.out.rd.s b6, RdZ.on T5.out.rd.t b6⟩ (by rw [hl6]; exact hroom))
          (try dsimp only)
          repeat (first | go_values | go_skip | go_guarded | go_step | go_upon)
          go_meet
          exact ⟨_, A6, q6, E, d2, T, d3, HT, HB5, Lib.hid (by refine ⟨?_, ?_, ?_⟩ <;> (try simp only [List.length_append, List.length_cons, List.length_nil]) <;> omega)⟩
        · skip
          (have b2 := b1; have cl : ((W0.alloc (.cells #[.bool false, .int .i64 8] 64))).cell? ⟨Kx, 5, none⟩ = some (.slice D y.d.length d1) := (T5.out.xv.below b1 hKx).cells 5; go_simp; have ss2 := vo_two VO b2)
          (try dsimp only)
          refine hK.out _ _ ?_ (fun hHeld2 => ?_)
          · first | trivial | ((try dsimp only); first | assumption | trivial | go_keep)
          clear hK K hHeld1
          (try simp only [Act.put, List.setIfInBounds_toArray, List.set_cons_succ, List.set_cons_zero])
          refine wpAnyH_ready (rs := [0]) (by kernel_rfl) (by simp) ?_
          refine (AllReadyH.cons (o := ⟨some 51, .buildSlice 57 0 #[], 57, "law.go:132", #[], none⟩) rfl (fun K hK => ?_) AllReadyH.nil)
          go_simp
          (have b3 := b2.alloc b2.size (.cells #[] 64); have ow : ((W0.alloc (.cells #[.bool false, .int .i64 8] 64)).alloc (.cells #[] 64)).ownsRow W0.heap.size 64 2 (.slice (some ⟨W0.heap.size + 1, 0, none⟩) 0 0) 0 (([] : List Pl).flatMap encPl) := (by have hh := lit_own2 (base := W0.heap.size) (enc := encPl) (k := 2) (n := 0) (e := 64) (l := []) (cs := #[]) ((W0.alloc (.cells #[.bool false, .int .i64 8] 64))) b2.size rfl encPl_len rfl (by omega); simpa using hh); have vo := vo.alloc (.cells #[] 64); have ss3 := vo_two VO b3)
          (try dsimp only)
          refine hK.out _ _ ?_ (fun hHeld3 => ?_)
          · first | trivial | ((try dsimp only); first | assumption | trivial | go_keep)
          clear hK K hHeld2
          (try simp only [Act.put, List.setIfInBounds_toArray, List.set_cons_succ, List.set_cons_zero])
          refine wpAnyH_ready (rs := [3]) (by kernel_rfl) (by simp) ?_
          refine (AllReadyH.cons (o := ⟨some 54, .call { callee := .builtin .append, args := #[.tmp 51, .tmp 53], argTypes := #[57, 57] }, 57, "law.go:132", #[⟨0, .data⟩, ⟨2, .data⟩], none⟩) rfl (fun K hK => ?_) AllReadyH.nil)
          (refine step_appN Tryz.underlying57 hi0 hz0 hz1 hz2 rfl (by omega) encPl_len encPl_one _ rfl (.tmp 51) (.tmp 53) rfl W0.heap.size (.slice (some ⟨W0.heap.size + 1, 0, none⟩) 0 0) 0 [] (by rfl) ow y.d y.d.length d1 D rfl (by rfl) (pl_row (RdP.on T5.out.rd.d b3)) y.d.length (by omega) y.d rfl (by omega) (by omega) b3.size ?_; intro A3 q3 w3 ow3 hg3 hob3; have b4 := b3.grown hg3 b3.size (fun j hj => (ow.lt j hj).1); have ow := ow3; have vo : Var w3 (W0.heap.size) #[.bool false, .int .i64 8] 64 := var_stay vo (k := W0.heap.size + 1) hg3 (by omega); have ss4 := vo_two VO b4)
          (try dsimp only)
          refine hK.out _ _ ?_ (fun hHeld4 => ?_)
          · first | trivial | ((try dsimp only); first | assumption | trivial | go_keep)
          clear hK K hHeld3
          (try simp only [Act.put, List.setIfInBounds_toArray, List.set_cons_succ, List.set_cons_zero])
          refine wpAnyH_ready (rs := [6]) (by kernel_rfl) (by simp) ?_
          refine (AllReadyH.cons (o := ⟨some 57, .call { callee := .builtin .append, args := #[.tmp 54, .tmp 56], argTypes := #[57, 57] }, 57, "law.go:132", #[⟨3, .data⟩, ⟨5, .data⟩, ⟨3, .chain⟩], none⟩) rfl (fun K hK => ?_) AllReadyH.nil)
          (refine step_appN Tryz.underlying57 hi0 hz0 hz1 hz2 rfl (by omega) encPl_len encPl_one _ rfl (.tmp 54) (.tmp 56) rfl W0.heap.size (.slice A3 y.d.length q3) y.d.length y.d (by rfl) ow [(⟨false, 8⟩ : Pl)] 1 1 (some ⟨W0.heap.size, 0, none⟩) rfl (by rfl) (block_reads (cs := #[.bool false, .int .i64 8]) (m := 1) (k := 2) rfl vo) (y.d.length + 1) rfl (y.d ++ [⟨false, 8⟩]) rfl (by omega) (by omega) b4.size ?_; intro A6 q6 w6 ow6 hg6 hob6; have b5 := b4.grown hg6 b4.size (fun j hj => (ow.lt j hj).1); have b6 := b5; have vx := T5.out.xv.below b6 hKx; have e7 := vx.cells 5; have z7 := vx.froz 5; have l7 := vx.lt; have ss5 := vo_two VO b6)
          (try dsimp only)
          refine hK.out _ _ ?_ (fun hHeld5 => ?_)
          · first | trivial | ((try dsimp only); first | assumption | trivial | go_keep)
          clear hK K hHeld4
          (try simp only [Act.put, List.setIfInBounds_toArray, List.set_cons_succ, List.set_cons_zero])
          refine tk (i := 7) (oi := ⟨some 58, .fieldAddr 61 (.tmp 12) 5, 0, "law.go:132", #[⟨0, .phase⟩, ⟨1, .phase⟩, ⟨2, .phase⟩, ⟨3, .phase⟩, ⟨4, .phase⟩, ⟨5, .phase⟩, ⟨6, .phase⟩], none⟩) rfl ?_; (try simp only [Act.put, List.setIfInBounds_toArray, List.set_cons_succ, List.set_cons_zero])
          refine wpAnyH_ready (rs := [8]) (by kernel_rfl) (by simp) ?_
          refine (AllReadyH.cons (o := ⟨none, .store 57 (.tmp 58) (.tmp 57), 0, "law.go:132", #[⟨7, .data⟩, ⟨6, .data⟩, ⟨6, .chain⟩, ⟨0, .phase⟩, ⟨1, .phase⟩, ⟨2, .phase⟩, ⟨3, .phase⟩, ⟨4, .phase⟩, ⟨5, .phase⟩, ⟨6, .phase⟩], none⟩) rfl (fun K hK => ?_) AllReadyH.nil)
          go_simp
          (have ss9 := vo_twoS VO b6 hne 5 (.slice A6 (y.d.length + 1) q6))
          (try dsimp only)
          refine hK.out _ _ ?_ (fun hHeld6 => ?_)
          · first | trivial | ((try dsimp only); first | assumption | trivial | go_keep)
          clear hK K hHeld5
          (try simp only [Act.put, List.setIfInBounds_toArray, List.set_cons_succ, List.set_cons_zero])
          refine wpAnyH_done (by kernel_rfl) ?_ _
          have hl6 : (y.d ++ [(⟨false, 8⟩ : Pl)]).length = y.d.length + 1 := by simp
          have hroom := own_room ow6
          have ow7 := ow6
          rw [← hl6] at ow7
          have HT := Lib.hid (T5.out.put b6 5 (.slice A6 (y.d.length + 1) q6) (y' := ⟨y.kind, y.op, y.a, y.b, y.n, y.d ++ [⟨false, 8⟩], y.s, y.tos, y.trap⟩) (D' := A6) (E' := E) (T' := T) (e1 := q6) (e2 := d2) (e3 := d3) (by simp [miV]) ⟨RdP.mono (own_pl ow7) (fun g _ hg => .inr (by omega)), RdP.on T5.out.rd.s b6, RdZ.on T5.out.rd.t b6⟩ (by rw [hl6]; exact hroom))
          (try dsimp only)
          repeat (first | go_values | go_skip | go_guarded | go_step | go_upon)
          go_meet
          exact ⟨_, A6, q6, E, d2, T, d3, HT, HB5, Lib.hid (by refine ⟨?_, ?_, ?_⟩ <;> (try simp only [List.length_append, List.length_cons, List.length_nil]) <;> omega)⟩
    · skip
      have HB5 := Lib.hid (HBAD.out 1 (by omega))
      have b0 := Below.refl W5.heap.size W5
      have hKx := T5.out.xv.lt
      clear HBAD
      go_wp2_with (first
        | (at_builtin; have b1 := b0.alloc b0.size (.cells #[] 64); have ow : (W5.alloc (.cells #[] 64)).ownsRow W5.heap.size 64 2 (.slice (some ⟨W5.heap.size, 0, none⟩) 0 0) 0 (([] : List Pl).flatMap encPl) := lit_own2 (base := W5.heap.size) (enc := encPl) (k := 2) (n := 0) (e := 64) (l := []) (cs := #[]) W5 b0.size rfl encPl_len rfl (by omega); refine app_rsN Tryz.underlying57 hi0 hz0 hz1 hz2 rfl (by omega) encPl_len encPl_one _ rfl (.tmp 61) (.tmp 63) rfl W5.heap.size (.slice (some ⟨W5.heap.size, 0, none⟩) 0 0) 0 [] (by rfl) ow y.s y.s.length d2 E rfl (by rfl) (pl_row (RdP.on T5.out.rd.s b1)) y.s.length (by omega) y.s rfl (by omega) (by omega) b1.size ?_; intro A3 q3 w3 ow3 hg3 hob3; have b2 := b1.grown hg3 b1.size (fun j hj => (ow.lt j hj).1); clear hg3 hob3 ow b1)
        | (at_builtin; have b3 := b2.alloc b2.size (.cells #[.bool false, .int .i64 0] 64); have vo := Var.new w3 #[.bool false, .int .i64 0] 64; have ow := ow3.alloc (.cells #[.bool false, .int .i64 0] 64); refine app_rsN Tryz.underlying57 hi0 hz0 hz1 hz2 rfl (by omega) encPl_len encPl_one _ rfl (.tmp 64) (.tmp 66) rfl W5.heap.size (.slice A3 y.s.length q3) y.s.length y.s (by rfl) ow [(⟨false, 0⟩ : Pl)] 1 1 (some ⟨w3.heap.size, 0, none⟩) rfl (by rfl) (block_reads (cs := #[.bool false, .int .i64 0]) (m := 1) (k := 2) rfl vo) (y.s.length + 1) rfl (y.s ++ [⟨false, 0⟩]) rfl (by omega) (by omega) b3.size ?_; intro A6 q6 w6 ow6 hg6 hob6; have b6 := b3.grown hg6 b3.size (fun j hj => (ow.lt j hj).1); have vx := T5.out.xv.below b6 hKx; have e7 := vx.cells 6; have z7 := vx.froz 6; have l7 := vx.lt; have hl6 : (y.s ++ [(⟨false, 0⟩ : Pl)]).length = y.s.length + 1 := (by simp); have hroom := own_room ow6; have ow7 := ow6; rw [← hl6] at ow7; have HT := Lib.hid (T5.out.put b6 6 (.slice A6 (y.s.length + 1) q6) (y' := ⟨y.kind, y.op, y.a, y.b, y.n, y.d, y.s ++ [⟨false, 0⟩], y.tos, y.trap⟩) (D' := D) (E' := A6) (T' := T) (e1 := d1) (e2 := q6) (e3 := d3) (by simp [miV]) ⟨RdP.on T5.out.rd.d b6, RdP.mono (own_pl ow7) (fun g _ hg => .inr (by omega)), RdZ.on T5.out.rd.t b6⟩ T5.out.cp)))
      go_meet
      exact ⟨_, D, d1, A6, q6, T, d3, HT, HB5, Lib.hid (by refine ⟨?_, ?_, ?_⟩ <;> (try simp only [List.length_append, List.length_cons, List.length_nil]) <;> omega)⟩
    · skip
      obtain ⟨yl, hcs⟩ : ∃ yl, y.s = yl := ⟨_, rfl⟩
      rcases yl with _ | ⟨p0, tl⟩
      · rw [hcs] at x6_
        clear HBAD
        go_wp2_with (go_at_call 11; (with_reducible refine (HA.out _ T5.out.ds.fs.glob).mono ?_); rintro e w9 ⟨rfl, hb⟩; have T6 := Lib.hid (T5.out.step hb))
        go_ret
        exact ⟨rfl, T6.out.ds.fs.bel⟩
      rw [hcs, List.length_cons] at x6_
      have hn0 : ((tl.length : Int) + 1 == 0) = false := by rw [beq_eq_false_iff_ne]; omega
      have hn1 : ¬ ((tl.length : Int) + 1 = 0) := by omega
      obtain ⟨g2, o2, hE, -, -, -⟩ := T5.out.rd.s.get (i := 0) (by rw [hcs]; simp)
      have HCL := Lib.hid (show (miV y D d1 E d2 T d3)[6]? = some (.slice (some ⟨g2, o2, none⟩) (tl.length + 1) d2) from by show some (Value.slice E y.s.length d2) = _; rw [hE, hcs]; rfl)
      have HEL := Lib.hid hE
      have HCP : Hid (y.s.length ≤ d2) := HC6
      have y1 : (1 : Int) ≤ (tl.length : Int) + 1 := by omega
      have hyl1 : tl.length ≤ 20 := by have := hyl; rw [hcs] at this; simp only [List.length_cons] at this; omega
      clear hE
      have hyn : Mc.turnY f y wh 2 = ⟨y.kind, y.op, y.a, y.b, y.n, y.d, ⟨false, 8⟩ :: tl, y.tos, y.trap⟩ := by unfold Mc.turnY; simp only [hcs]; rfl
      have HB5 := Lib.hid (hyn ▸ HBAD.out 2 (by omega))
      have HCS := Lib.hid hcs
      clear HBAD hyn hcs
      go_upto_region 17 with fail
      have SS : (fun W' => W'.cell? ⟨Ko, 0, none⟩ = some (.bool false) ∧ W'.cell? ⟨Ko, 1, none⟩ = some (.int .i64 8)) (World.drew W5) := ⟨VO.out.cells 0, VO.out.cells 1⟩
      (try dsimp only at SS)
      refine wp_region_held_drew (S := (fun W' => W'.cell? ⟨Ko, 0, none⟩ = some (.bool false) ∧ W'.cell? ⟨Ko, 1, none⟩ = some (.int .i64 8))) (by kernel_rfl) ?_ (fun hHeld0 => ?_)
      · first | assumption | go_keep
      refine at_anyH (F := fun W => Hid (TSt w W m x f P c1 R c2 C c3 Kx y D d1 E d2 T d3) ∧ Hid (Var W Ko #[.bool false, .int .i64 8] 64) ∧ (fun W' => W'.cell? ⟨Ko, 0, none⟩ = some (.bool false) ∧ W'.cell? ⟨Ko, 1, none⟩ = some (.int .i64 8)) W) ⟨Lib.hid (T5.out.step (below_drewN _ 1)), VO, hHeld0⟩ ?_
      clear hHeld0 T5 VO SS x0_ x1_ x2_ x3_ x4_ x5_ x6_ x7_ x8_
      rintro W0 ⟨T5, VO, hHeld0⟩
      (try dsimp only at hHeld0)
      have b0 := Below.refl W0.heap.size W0
      have hKo := VO.out.lt
      have hKx := T5.out.xv.lt
      have hne := HNE.out
      have hKf := T5.out.ds.fs.var.lt
      have HTL := Lib.hid (fun U (hb : Below W0.heap.size W0 U) => tail_row (by have hh := RdP.on T5.out.rd.s hb; rw [HEL.out, HCS.out] at hh; exact hh) d2 (by have := HCP.out; rw [HCS.out] at this; exact this))
      refine tk (i := 0) (oi := ⟨some 76, .load 64 (.tmp 13), 64, "law.go:139", #[], none⟩) rfl ?_; (try simp only [Act.put, List.setIfInBounds_toArray, List.set_cons_succ, List.set_cons_zero])
      refine tk (i := 2) (oi := ⟨some 78, .fieldAddr 61 (.tmp 12) 6, 0, "law.go:139", #[], none⟩) rfl ?_; (try simp only [Act.put, List.setIfInBounds_toArray, List.set_cons_succ, List.set_cons_zero])
      refine wpAnyH_ready (rs := [1, 3]) (by kernel_rfl) (by simp) ?_
      refine (AllReadyH.cons (o := ⟨some 77, .buildSlice 57 1 #[(0, .tmp 76)], 57, "law.go:139", #[⟨0, .data⟩], none⟩) rfl (fun K hK => ?_) (AllReadyH.cons (o := ⟨some 79, .load 57 (.tmp 78), 57, "law.go:139", #[⟨2, .data⟩], none⟩) rfl (fun K hK => ?_) AllReadyH.nil))
      · skip
        go_simp
        (have b1 := b0.alloc b0.size (.cells #[.bool false, .int .i64 8] 64); have ow := lit_own2 (base := W0.heap.size) (enc := encPl) (k := 2) (n := 1) (e := 64) (l := [(⟨false, 8⟩ : Pl)]) (cs := #[.bool false, .int .i64 8]) (W0) b0.size rfl encPl_len rfl (by omega); have ss1 := vo_two VO b1)
        (try dsimp only)
        refine hK.out _ _ ?_ (fun hHeld1 => ?_)
        · first | trivial | ((try dsimp only); first | assumption | trivial | go_keep)
        clear hK K hHeld0
        (try simp only [Act.put, List.setIfInBounds_toArray, List.set_cons_succ, List.set_cons_zero])
        refine wpAnyH_ready (rs := [3]) (by kernel_rfl) (by simp) ?_
        refine (AllReadyH.cons (o := ⟨some 79, .load 57 (.tmp 78), 57, "law.go:139", #[⟨2, .data⟩], none⟩) rfl (fun K hK => ?_) AllReadyH.nil)
        (have b2 := b1; have cl : ((W0.alloc (.cells #[.bool false, .int .i64 8] 64))).cell? ⟨Kx, 6, none⟩ = some (.slice (some ⟨g2, o2, none⟩) (tl.length + 1) d2) := ((T5.out.xv.below b1 hKx).cells 6).trans HCL.out; go_simp; have ss2 := vo_two VO b2)
        (try dsimp only)
        refine hK.out _ _ ?_ (fun hHeld2 => ?_)
        · first | trivial | ((try dsimp only); first | assumption | trivial | go_keep)
        clear hK K hHeld1
        (try simp only [Act.put, List.setIfInBounds_toArray, List.set_cons_succ, List.set_cons_zero])
        refine tk (i := 4) (oi := ⟨some 80, .slice 57 (.tmp 79) (some (.const (.int .i64 1))) none none, 57, "law.go:139", #[⟨3, .data⟩], none⟩) rfl ?_; (try simp only [Act.put, List.setIfInBounds_toArray, List.set_cons_succ, List.set_cons_zero])
        refine wpAnyH_ready (rs := [5]) (by kernel_rfl) (by simp) ?_
        refine (AllReadyH.cons (o := ⟨some 81, .call { callee := .builtin .append, args := #[.tmp 77, .tmp 80], argTypes := #[57, 57] }, 57, "law.go:139", #[⟨1, .data⟩, ⟨4, .data⟩], none⟩) rfl (fun K hK => ?_) AllReadyH.nil)
        (refine step_appN Tryz.underlying57 hi0 hz0 hz1 hz2 rfl (by omega) encPl_len encPl_one _ rfl (.tmp 77) (.tmp 80) rfl W0.heap.size (.slice (some ⟨W0.heap.size, 0, none⟩) 1 1) 1 [⟨false, 8⟩] (by rfl) ow tl tl.length (d2 - 1) (if d2 = 1 then some ⟨g2, o2, none⟩ else some ⟨g2, o2 + 2, none⟩) rfl (by rfl) (pl_row (HTL.out _ b2)) (tl.length + 1) (by omega) (⟨false, 8⟩ :: tl) rfl (by omega) (by omega) b2.size ?_; intro A6 q6 w6 ow6 hg6 hob6; have b6 := b2.grown hg6 b2.size (fun j hj => (ow.lt j hj).1); have vx := T5.out.xv.below b6 hKx; have e7 := vx.cells 6; have z7 := vx.froz 6; have l7 := vx.lt; have ss3 := vo_two VO b6)
        (try dsimp only)
        refine hK.out _ _ ?_ (fun hHeld3 => ?_)
        · first | trivial | ((try dsimp only); first | assumption | trivial | go_keep)
        clear hK K hHeld2
        (try simp only [Act.put, List.setIfInBounds_toArray, List.set_cons_succ, List.set_cons_zero])
        refine tk (i := 6) (oi := ⟨some 82, .fieldAddr 61 (.tmp 12) 6, 0, "law.go:139", #[⟨0, .phase⟩, ⟨1, .phase⟩, ⟨2, .phase⟩, ⟨3, .phase⟩, ⟨4, .phase⟩, ⟨5, .phase⟩], none⟩) rfl ?_; (try simp only [Act.put, List.setIfInBounds_toArray, List.set_cons_succ, List.set_cons_zero])
        refine wpAnyH_ready (rs := [7]) (by kernel_rfl) (by simp) ?_
        refine (AllReadyH.cons (o := ⟨none, .store 57 (.tmp 82) (.tmp 81), 0, "law.go:139", #[⟨6, .data⟩, ⟨5, .data⟩, ⟨5, .chain⟩, ⟨0, .phase⟩, ⟨1, .phase⟩, ⟨2, .phase⟩, ⟨3, .phase⟩, ⟨4, .phase⟩, ⟨5, .phase⟩], none⟩) rfl (fun K hK => ?_) AllReadyH.nil)
        go_simp
        (have ss9 := vo_twoS VO b6 hne 6 ((.slice A6 (tl.length + 1) q6)))
        (try dsimp only)
        refine hK.out _ _ ?_ (fun hHeld4 => ?_)
        · first | trivial | ((try dsimp only); first | assumption | trivial | go_keep)
        clear hK K hHeld3
        (try simp only [Act.put, List.setIfInBounds_toArray, List.set_cons_succ, List.set_cons_zero])
        refine wpAnyH_done (by kernel_rfl) ?_ _
        have hroom := own_room ow6
        have ow7 := ow6
        rw [show tl.length + 1 = ((⟨false, 8⟩ : Pl) :: tl).length from rfl] at ow7
        have HT := Lib.hid (T5.out.put b6 6 (.slice A6 (tl.length + 1) q6) (y' := ⟨y.kind, y.op, y.a, y.b, y.n, y.d, ⟨false, 8⟩ :: tl, y.tos, y.trap⟩) (D' := D) (E' := A6) (T' := T) (e1 := d1) (e2 := q6) (e3 := d3) (by simp [miV]) ⟨RdP.on T5.out.rd.d b6, RdP.mono (own_pl ow7) (fun g _ hg => .inr (by omega)), RdZ.on T5.out.rd.t b6⟩ T5.out.cp)
        (try dsimp only)
        repeat (first | go_values | go_skip | go_guarded | go_step | go_upon)
        go_meet
        exact ⟨_, D, d1, A6, q6, T, d3, HT, HB5, Lib.hid (by refine ⟨?_, ?_, ?_⟩ <;> (try simp only [List.length_append, List.length_cons, List.length_nil]) <;> omega)⟩
      · skip
        (have b1 := b0; have cl : (W0).cell? ⟨Kx, 6, none⟩ = some (.slice (some ⟨g2, o2, none⟩) (tl.length + 1) d2) := ((T5.out.xv.below b0 hKx).cells 6).trans HCL.out; go_simp; have ss1 := vo_two VO b1)
        (try dsimp only)
        refine hK.out _ _ ?_ (fun hHeld1 => ?_)
        · first | trivial | ((try dsimp only); first | assumption | trivial | go_keep)
        clear hK K hHeld0
        (try simp only [Act.put, List.setIfInBounds_toArray, List.set_cons_succ, List.set_cons_zero])
        refine tk (i := 4) (oi := ⟨some 80, .slice 57 (.tmp 79) (some (.const (.int .i64 1))) none none, 57, "law.go:139", #[⟨3, .data⟩], none⟩) rfl ?_; (try simp only [Act.put, List.setIfInBounds_toArray, List.set_cons_succ, List.set_cons_zero])
        refine wpAnyH_ready (rs := [1]) (by kernel_rfl) (by simp) ?_
        refine (AllReadyH.cons (o := ⟨some 77, .buildSlice 57 1 #[(0, .tmp 76)], 57, "law.go:139", #[⟨0, .data⟩], none⟩) rfl (fun K hK => ?_) AllReadyH.nil)
        go_simp
        (have b2 := b1.alloc b1.size (.cells #[.bool false, .int .i64 8] 64); have ow := lit_own2 (base := W0.heap.size) (enc := encPl) (k := 2) (n := 1) (e := 64) (l := [(⟨false, 8⟩ : Pl)]) (cs := #[.bool false, .int .i64 8]) (W0) b1.size rfl encPl_len rfl (by omega); have ss2 := vo_two VO b2)
        (try dsimp only)
        refine hK.out _ _ ?_ (fun hHeld2 => ?_)
        · first | trivial | ((try dsimp only); first | assumption | trivial | go_keep)
        clear hK K hHeld1
        (try simp only [Act.put, List.setIfInBounds_toArray, List.set_cons_succ, List.set_cons_zero])
        refine wpAnyH_ready (rs := [5]) (by kernel_rfl) (by simp) ?_
        refine (AllReadyH.cons (o := ⟨some 81, .call { callee := .builtin .append, args := #[.tmp 77, .tmp 80], argTypes := #[57, 57] }, 57, "law.go:139", #[⟨1, .data⟩, ⟨4, .data⟩], none⟩) rfl (fun K hK => ?_) AllReadyH.nil)
        (refine step_appN Tryz.underlying57 hi0 hz0 hz1 hz2 rfl (by omega) encPl_len encPl_one _ rfl (.tmp 77) (.tmp 80) rfl W0.heap.size (.slice (some ⟨W0.heap.size, 0, none⟩) 1 1) 1 [⟨false, 8⟩] (by rfl) ow tl tl.length (d2 - 1) (if d2 = 1 then some ⟨g2, o2, none⟩ else some ⟨g2, o2 + 2, none⟩) rfl (by rfl) (pl_row (HTL.out _ b2)) (tl.length + 1) (by omega) (⟨false, 8⟩ :: tl) rfl (by omega) (by omega) b2.size ?_; intro A6 q6 w6 ow6 hg6 hob6; have b6 := b2.grown hg6 b2.size (fun j hj => (ow.lt j hj).1); have vx := T5.out.xv.below b6 hKx; have e7 := vx.cells 6; have z7 := vx.froz 6; have l7 := vx.lt; have ss3 := vo_two VO b6)
        (try dsimp only)
        refine hK.out _ _ ?_ (fun hHeld3 => ?_)
        · first | trivial | ((try dsimp only); first | assumption | trivial | go_keep)
        clear hK K hHeld2
        (try simp only [Act.put, List.setIfInBounds_toArray, List.set_cons_succ, List.set_cons_zero])
        refine tk (i := 6) (oi := ⟨some 82, .fieldAddr 61 (.tmp 12) 6, 0, "law.go:139", #[⟨0, .phase⟩, ⟨1, .phase⟩, ⟨2, .phase⟩, ⟨3, .phase⟩, ⟨4, .phase⟩, ⟨5, .phase⟩], none⟩) rfl ?_; (try simp only [Act.put, List.setIfInBounds_toArray, List.set_cons_succ, List.set_cons_zero])
        refine wpAnyH_ready (rs := [7]) (by kernel_rfl) (by simp) ?_
        refine (AllReadyH.cons (o := ⟨none, .store 57 (.tmp 82) (.tmp 81), 0, "law.go:139", #[⟨6, .data⟩, ⟨5, .data⟩, ⟨5, .chain⟩, ⟨0, .phase⟩, ⟨1, .phase⟩, ⟨2, .phase⟩, ⟨3, .phase⟩, ⟨4, .phase⟩, ⟨5, .phase⟩], none⟩) rfl (fun K hK => ?_) AllReadyH.nil)
        go_simp
        (have ss9 := vo_twoS VO b6 hne 6 ((.slice A6 (tl.length + 1) q6)))
        (try dsimp only)
        refine hK.out _ _ ?_ (fun hHeld4 => ?_)
        · first | trivial | ((try dsimp only); first | assumption | trivial | go_keep)
        clear hK K hHeld3
        (try simp only [Act.put, List.setIfInBounds_toArray, List.set_cons_succ, List.set_cons_zero])
        refine wpAnyH_done (by kernel_rfl) ?_ _
        have hroom := own_room ow6
        have ow7 := ow6
        rw [show tl.length + 1 = ((⟨false, 8⟩ : Pl) :: tl).length from rfl] at ow7
        have HT := Lib.hid (T5.out.put b6 6 (.slice A6 (tl.length + 1) q6) (y' := ⟨y.kind, y.op, y.a, y.b, y.n, y.d, ⟨false, 8⟩ :: tl, y.tos, y.trap⟩) (D' := D) (E' := A6) (T' := T) (e1 := d1) (e2 := q6) (e3 := d3) (by simp [miV]) ⟨RdP.on T5.out.rd.d b6, RdP.mono (own_pl ow7) (fun g _ hg => .inr (by omega)), RdZ.on T5.out.rd.t b6⟩ T5.out.cp)
        (try dsimp only)
        repeat (first | go_values | go_skip | go_guarded | go_step | go_upon)
        go_meet
        exact ⟨_, D, d1, A6, q6, T, d3, HT, HB5, Lib.hid (by refine ⟨?_, ?_, ?_⟩ <;> (try simp only [List.length_append, List.length_cons, List.length_nil]) <;> omega)⟩
    · skip
      obtain ⟨yl, hcs⟩ : ∃ yl, y.d = yl := ⟨_, rfl⟩
      rcases yl with _ | ⟨p0, tl⟩
      · rw [hcs] at x5_
        clear HBAD
        go_wp2_with (go_at_call 11; (with_reducible refine (HA.out _ T5.out.ds.fs.glob).mono ?_); rintro e w9 ⟨rfl, hb⟩; have T6 := Lib.hid (T5.out.step hb))
        go_ret
        exact ⟨rfl, T6.out.ds.fs.bel⟩
      rw [hcs, List.length_cons] at x5_
      have hn0 : ((tl.length : Int) + 1 == 0) = false := by rw [beq_eq_false_iff_ne]; omega
      have hn1 : ¬ ((tl.length : Int) + 1 = 0) := by omega
      obtain ⟨g2, o2, hE, -, -, -⟩ := T5.out.rd.d.get (i := 0) (by rw [hcs]; simp)
      have HCL := Lib.hid (show (miV y D d1 E d2 T d3)[5]? = some (.slice (some ⟨g2, o2, none⟩) (tl.length + 1) d1) from by show some (Value.slice D y.d.length d1) = _; rw [hE, hcs]; rfl)
      have HEL := Lib.hid hE
      have HCP : Hid (y.d.length ≤ d1) := Lib.hid T5.out.cp
      have y1 : (1 : Int) ≤ (tl.length : Int) + 1 := by omega
      have hyl1 : tl.length ≤ 20 := by have := hyl; rw [hcs] at this; simp only [List.length_cons] at this; omega
      clear hE
      have hyn : Mc.turnY f y wh 3 = ⟨y.kind, y.op, y.a, y.b, y.n, ⟨true, f.slots⟩ :: tl, y.s, y.tos, y.trap⟩ := by unfold Mc.turnY; simp only [hcs]; rfl
      have HB5 := Lib.hid (hyn ▸ HBAD.out 3 (by omega))
      have HCS := Lib.hid hcs
      clear HBAD hyn hcs
      go_upto_region 21 with fail
      have SS : (fun W' => W'.cell? ⟨w.heap.size + 1, 2, none⟩ = some (.int .i64 f.slots)) (World.drew W5) := T5.out.ds.fs.var.cells 2
      (try dsimp only at SS)
      refine wp_region_held_drew (S := (fun W' => W'.cell? ⟨w.heap.size + 1, 2, none⟩ = some (.int .i64 f.slots))) (by kernel_rfl) ?_ (fun hHeld0 => ?_)
      · first | assumption | go_keep
      refine at_anyH (F := fun W => Hid (TSt w W m x f P c1 R c2 C c3 Kx y D d1 E d2 T d3) ∧ Hid (Var W Ko #[.bool false, .int .i64 8] 64) ∧ (fun W' => W'.cell? ⟨w.heap.size + 1, 2, none⟩ = some (.int .i64 f.slots)) W) ⟨Lib.hid (T5.out.step (below_drewN _ 1)), VO, hHeld0⟩ ?_
      clear hHeld0 T5 VO SS x0_ x1_ x2_ x3_ x4_ x5_ x6_ x7_ x8_
      rintro W0 ⟨T5, VO, hHeld0⟩
      (try dsimp only at hHeld0)
      have b0 := Below.refl W0.heap.size W0
      have hKo := VO.out.lt
      have hKx := T5.out.xv.lt
      have hne := HNE.out
      have hKf := T5.out.ds.fs.var.lt
      have HTL := Lib.hid (fun U (hb : Below W0.heap.size W0 U) => tail_row (by have hh := RdP.on T5.out.rd.d hb; rw [HEL.out, HCS.out] at hh; exact hh) d1 (by have := HCP.out; rw [HCS.out] at this; exact this))
      refine tk (i := 0) (oi := ⟨some 90, .fieldAddr 39 (.tmp 5) 1, 0, "law.go:144", #[], none⟩) rfl ?_; (try simp only [Act.put, List.setIfInBounds_toArray, List.set_cons_succ, List.set_cons_zero])
      refine tk (i := 1) (oi := ⟨some 91, .load 3 (.tmp 90), 3, "law.go:144", #[⟨0, .data⟩], none⟩) rfl ?_; (try simp only [Act.put, List.setIfInBounds_toArray, List.set_cons_succ, List.set_cons_zero])
      refine tk (i := 2) (oi := ⟨some 92, .build 64 #[(0, .const (.bool true)), (1, .tmp 91)], 64, "law.go:144", #[⟨1, .data⟩], none⟩) rfl ?_; (try simp only [Act.put, List.setIfInBounds_toArray, List.set_cons_succ, List.set_cons_zero])
      refine tk (i := 4) (oi := ⟨some 94, .fieldAddr 61 (.tmp 12) 5, 0, "law.go:144", #[], none⟩) rfl ?_; (try simp only [Act.put, List.setIfInBounds_toArray, List.set_cons_succ, List.set_cons_zero])
      refine wpAnyH_ready (rs := [3, 5]) (by kernel_rfl) (by simp) ?_
      refine (AllReadyH.cons (o := ⟨some 93, .buildSlice 57 1 #[(0, .tmp 92)], 57, "law.go:144", #[⟨2, .data⟩], none⟩) rfl (fun K hK => ?_) (AllReadyH.cons (o := ⟨some 95, .load 57 (.tmp 94), 57, "law.go:144", #[⟨4, .data⟩], none⟩) rfl (fun K hK => ?_) AllReadyH.nil))
      · skip
        go_simp
        (have b1 := b0.alloc b0.size (.cells #[.bool true, .int .i64 f.slots] 64); have ow := lit_own2 (base := W0.heap.size) (enc := encPl) (k := 2) (n := 1) (e := 64) (l := [(⟨true, f.slots⟩ : Pl)]) (cs := #[.bool true, .int .i64 f.slots]) (W0) b0.size rfl encPl_len rfl (by omega); have ss1 : (fun W' => W'.cell? ⟨w.heap.size + 1, 2, none⟩ = some (.int .i64 f.slots)) (W0.alloc (.cells #[.bool true, .int .i64 f.slots] 64)) := (T5.out.ds.fs.var.below b1 hKf).cells 2; (try dsimp only at ss1))
        (try dsimp only)
        refine hK.out _ _ ?_ (fun hHeld1 => ?_)
        · first | trivial | ((try dsimp only); first | assumption | trivial | go_keep)
        clear hK K hHeld0
        (try simp only [Act.put, List.setIfInBounds_toArray, List.set_cons_succ, List.set_cons_zero])
        refine wpAnyH_ready (rs := [5]) (by kernel_rfl) (by simp) ?_
        refine (AllReadyH.cons (o := ⟨some 95, .load 57 (.tmp 94), 57, "law.go:144", #[⟨4, .data⟩], none⟩) rfl (fun K hK => ?_) AllReadyH.nil)
        (have b2 := b1; have cl : ((W0.alloc (.cells #[.bool true, .int .i64 f.slots] 64))).cell? ⟨Kx, 5, none⟩ = some (.slice (some ⟨g2, o2, none⟩) (tl.length + 1) d1) := ((T5.out.xv.below b1 hKx).cells 5).trans HCL.out; go_simp; have ss2 : (fun W' => W'.cell? ⟨w.heap.size + 1, 2, none⟩ = some (.int .i64 f.slots)) ((W0.alloc (.cells #[.bool true, .int .i64 f.slots] 64))) := (T5.out.ds.fs.var.below b2 hKf).cells 2; (try dsimp only at ss2))
        (try dsimp only)
        refine hK.out _ _ ?_ (fun hHeld2 => ?_)
        · first | trivial | ((try dsimp only); first | assumption | trivial | go_keep)
        clear hK K hHeld1
        (try simp only [Act.put, List.setIfInBounds_toArray, List.set_cons_succ, List.set_cons_zero])
        refine tk (i := 6) (oi := ⟨some 96, .slice 57 (.tmp 95) (some (.const (.int .i64 1))) none none, 57, "law.go:144", #[⟨5, .data⟩], none⟩) rfl ?_; (try simp only [Act.put, List.setIfInBounds_toArray, List.set_cons_succ, List.set_cons_zero])
        refine wpAnyH_ready (rs := [7]) (by kernel_rfl) (by simp) ?_
        refine (AllReadyH.cons (o := ⟨some 97, .call { callee := .builtin .append, args := #[.tmp 93, .tmp 96], argTypes := #[57, 57] }, 57, "law.go:144", #[⟨3, .data⟩, ⟨6, .data⟩], none⟩) rfl (fun K hK => ?_) AllReadyH.nil)
        (refine step_appN Tryz.underlying57 hi0 hz0 hz1 hz2 rfl (by omega) encPl_len encPl_one _ rfl (.tmp 93) (.tmp 96) rfl W0.heap.size (.slice (some ⟨W0.heap.size, 0, none⟩) 1 1) 1 [⟨true, f.slots⟩] (by rfl) ow tl tl.length (d1 - 1) (if d1 = 1 then some ⟨g2, o2, none⟩ else some ⟨g2, o2 + 2, none⟩) rfl (by rfl) (pl_row (HTL.out _ b2)) (tl.length + 1) (by omega) (⟨true, f.slots⟩ :: tl) rfl (by omega) (by omega) b2.size ?_; intro A6 q6 w6 ow6 hg6 hob6; have b6 := b2.grown hg6 b2.size (fun j hj => (ow.lt j hj).1); have vx := T5.out.xv.below b6 hKx; have e7 := vx.cells 5; have z7 := vx.froz 5; have l7 := vx.lt; have ss3 : (fun W' => W'.cell? ⟨w.heap.size + 1, 2, none⟩ = some (.int .i64 f.slots)) (w6) := (T5.out.ds.fs.var.below b6 hKf).cells 2; (try dsimp only at ss3))
        (try dsimp only)
        refine hK.out _ _ ?_ (fun hHeld3 => ?_)
        · first | trivial | ((try dsimp only); first | assumption | trivial | go_keep)
        clear hK K hHeld2
        (try simp only [Act.put, List.setIfInBounds_toArray, List.set_cons_succ, List.set_cons_zero])
        refine tk (i := 8) (oi := ⟨some 98, .fieldAddr 61 (.tmp 12) 5, 0, "law.go:144", #[⟨0, .phase⟩, ⟨1, .phase⟩, ⟨2, .phase⟩, ⟨3, .phase⟩, ⟨4, .phase⟩, ⟨5, .phase⟩, ⟨6, .phase⟩, ⟨7, .phase⟩], none⟩) rfl ?_; (try simp only [Act.put, List.setIfInBounds_toArray, List.set_cons_succ, List.set_cons_zero])
        refine wpAnyH_ready (rs := [9]) (by kernel_rfl) (by simp) ?_
        refine (AllReadyH.cons (o := ⟨none, .store 57 (.tmp 98) (.tmp 97), 0, "law.go:144", #[⟨8, .data⟩, ⟨7, .data⟩, ⟨7, .chain⟩, ⟨0, .phase⟩, ⟨1, .phase⟩, ⟨2, .phase⟩, ⟨3, .phase⟩, ⟨4, .phase⟩, ⟨5, .phase⟩, ⟨6, .phase⟩, ⟨7, .phase⟩], none⟩) rfl (fun K hK => ?_) AllReadyH.nil)
        go_simp
        (have ss9 : (fun W' => W'.cell? ⟨w.heap.size + 1, 2, none⟩ = some (.int .i64 f.slots)) (w6.setCell ⟨Kx, 5, none⟩ (.slice A6 (tl.length + 1) q6)) := ((T5.out.ds.fs.var.below b6 hKf).other (by have := T5.out.lo; omega) _ _).cells 2; (try dsimp only at ss9))
        (try dsimp only)
        refine hK.out _ _ ?_ (fun hHeld4 => ?_)
        · first | trivial | ((try dsimp only); first | assumption | trivial | go_keep)
        clear hK K hHeld3
        (try simp only [Act.put, List.setIfInBounds_toArray, List.set_cons_succ, List.set_cons_zero])
        refine wpAnyH_done (by kernel_rfl) ?_ _
        have hroom := own_room ow6
        have ow7 := ow6
        rw [show tl.length + 1 = ((⟨true, f.slots⟩ : Pl) :: tl).length from rfl] at ow7
        have HT := Lib.hid (T5.out.put b6 5 (.slice A6 (tl.length + 1) q6) (y' := ⟨y.kind, y.op, y.a, y.b, y.n, ⟨true, f.slots⟩ :: tl, y.s, y.tos, y.trap⟩) (D' := A6) (E' := E) (T' := T) (e1 := q6) (e2 := d2) (e3 := d3) (by simp [miV]) ⟨RdP.mono (own_pl ow7) (fun g _ hg => .inr (by omega)), RdP.on T5.out.rd.s b6, RdZ.on T5.out.rd.t b6⟩ hroom)
        (try dsimp only)
        repeat (first | go_values | go_skip | go_guarded | go_step | go_upon)
        go_meet
        exact ⟨_, A6, q6, E, d2, T, d3, HT, HB5, Lib.hid (by refine ⟨?_, ?_, ?_⟩ <;> (try simp only [List.length_append, List.length_cons, List.length_nil]) <;> omega)⟩
      · skip
        (have b1 := b0; have cl : (W0).cell? ⟨Kx, 5, none⟩ = some (.slice (some ⟨g2, o2, none⟩) (tl.length + 1) d1) := ((T5.out.xv.below b0 hKx).cells 5).trans HCL.out; go_simp; have ss1 : (fun W' => W'.cell? ⟨w.heap.size + 1, 2, none⟩ = some (.int .i64 f.slots)) (W0) := (T5.out.ds.fs.var.below b1 hKf).cells 2; (try dsimp only at ss1))
        (try dsimp only)
        refine hK.out _ _ ?_ (fun hHeld1 => ?_)
        · first | trivial | ((try dsimp only); first | assumption | trivial | go_keep)
        clear hK K hHeld0
        (try simp only [Act.put, List.setIfInBounds_toArray, List.set_cons_succ, List.set_cons_zero])
        refine tk (i := 6) (oi := ⟨some 96, .slice 57 (.tmp 95) (some (.const (.int .i64 1))) none none, 57, "law.go:144", #[⟨5, .data⟩], none⟩) rfl ?_; (try simp only [Act.put, List.setIfInBounds_toArray, List.set_cons_succ, List.set_cons_zero])
        refine wpAnyH_ready (rs := [3]) (by kernel_rfl) (by simp) ?_
        refine (AllReadyH.cons (o := ⟨some 93, .buildSlice 57 1 #[(0, .tmp 92)], 57, "law.go:144", #[⟨2, .data⟩], none⟩) rfl (fun K hK => ?_) AllReadyH.nil)
        go_simp
        (have b2 := b1.alloc b1.size (.cells #[.bool true, .int .i64 f.slots] 64); have ow := lit_own2 (base := W0.heap.size) (enc := encPl) (k := 2) (n := 1) (e := 64) (l := [(⟨true, f.slots⟩ : Pl)]) (cs := #[.bool true, .int .i64 f.slots]) (W0) b1.size rfl encPl_len rfl (by omega); have ss2 : (fun W' => W'.cell? ⟨w.heap.size + 1, 2, none⟩ = some (.int .i64 f.slots)) (W0.alloc (.cells #[.bool true, .int .i64 f.slots] 64)) := (T5.out.ds.fs.var.below b2 hKf).cells 2; (try dsimp only at ss2))
        (try dsimp only)
        refine hK.out _ _ ?_ (fun hHeld2 => ?_)
        · first | trivial | ((try dsimp only); first | assumption | trivial | go_keep)
        clear hK K hHeld1
        (try simp only [Act.put, List.setIfInBounds_toArray, List.set_cons_succ, List.set_cons_zero])
        refine wpAnyH_ready (rs := [7]) (by kernel_rfl) (by simp) ?_
        refine (AllReadyH.cons (o := ⟨some 97, .call { callee := .builtin .append, args := #[.tmp 93, .tmp 96], argTypes := #[57, 57] }, 57, "law.go:144", #[⟨3, .data⟩, ⟨6, .data⟩], none⟩) rfl (fun K hK => ?_) AllReadyH.nil)
        (refine step_appN Tryz.underlying57 hi0 hz0 hz1 hz2 rfl (by omega) encPl_len encPl_one _ rfl (.tmp 93) (.tmp 96) rfl W0.heap.size (.slice (some ⟨W0.heap.size, 0, none⟩) 1 1) 1 [⟨true, f.slots⟩] (by rfl) ow tl tl.length (d1 - 1) (if d1 = 1 then some ⟨g2, o2, none⟩ else some ⟨g2, o2 + 2, none⟩) rfl (by rfl) (pl_row (HTL.out _ b2)) (tl.length + 1) (by omega) (⟨true, f.slots⟩ :: tl) rfl (by omega) (by omega) b2.size ?_; intro A6 q6 w6 ow6 hg6 hob6; have b6 := b2.grown hg6 b2.size (fun j hj => (ow.lt j hj).1); have vx := T5.out.xv.below b6 hKx; have e7 := vx.cells 5; have z7 := vx.froz 5; have l7 := vx.lt; have ss3 : (fun W' => W'.cell? ⟨w.heap.size + 1, 2, none⟩ = some (.int .i64 f.slots)) (w6) := (T5.out.ds.fs.var.below b6 hKf).cells 2; (try dsimp only at ss3))
        (try dsimp only)
        refine hK.out _ _ ?_ (fun hHeld3 => ?_)
        · first | trivial | ((try dsimp only); first | assumption | trivial | go_keep)
        clear hK K hHeld2
        (try simp only [Act.put, List.setIfInBounds_toArray, List.set_cons_succ, List.set_cons_zero])
        refine tk (i := 8) (oi := ⟨some 98, .fieldAddr 61 (.tmp 12) 5, 0, "law.go:144", #[⟨0, .phase⟩, ⟨1, .phase⟩, ⟨2, .phase⟩, ⟨3, .phase⟩, ⟨4, .phase⟩, ⟨5, .phase⟩, ⟨6, .phase⟩, ⟨7, .phase⟩], none⟩) rfl ?_; (try simp only [Act.put, List.setIfInBounds_toArray, List.set_cons_succ, List.set_cons_zero])
        refine wpAnyH_ready (rs := [9]) (by kernel_rfl) (by simp) ?_
        refine (AllReadyH.cons (o := ⟨none, .store 57 (.tmp 98) (.tmp 97), 0, "law.go:144", #[⟨8, .data⟩, ⟨7, .data⟩, ⟨7, .chain⟩, ⟨0, .phase⟩, ⟨1, .phase⟩, ⟨2, .phase⟩, ⟨3, .phase⟩, ⟨4, .phase⟩, ⟨5, .phase⟩, ⟨6, .phase⟩, ⟨7, .phase⟩], none⟩) rfl (fun K hK => ?_) AllReadyH.nil)
        go_simp
        (have ss9 : (fun W' => W'.cell? ⟨w.heap.size + 1, 2, none⟩ = some (.int .i64 f.slots)) (w6.setCell ⟨Kx, 5, none⟩ (.slice A6 (tl.length + 1) q6)) := ((T5.out.ds.fs.var.below b6 hKf).other (by have := T5.out.lo; omega) _ _).cells 2; (try dsimp only at ss9))
        (try dsimp only)
        refine hK.out _ _ ?_ (fun hHeld4 => ?_)
        · first | trivial | ((try dsimp only); first | assumption | trivial | go_keep)
        clear hK K hHeld3
        (try simp only [Act.put, List.setIfInBounds_toArray, List.set_cons_succ, List.set_cons_zero])
        refine wpAnyH_done (by kernel_rfl) ?_ _
        have hroom := own_room ow6
        have ow7 := ow6
        rw [show tl.length + 1 = ((⟨true, f.slots⟩ : Pl) :: tl).length from rfl] at ow7
        have HT := Lib.hid (T5.out.put b6 5 (.slice A6 (tl.length + 1) q6) (y' := ⟨y.kind, y.op, y.a, y.b, y.n, ⟨true, f.slots⟩ :: tl, y.s, y.tos, y.trap⟩) (D' := A6) (E' := E) (T' := T) (e1 := q6) (e2 := d2) (e3 := d3) (by simp [miV]) ⟨RdP.mono (own_pl ow7) (fun g _ hg => .inr (by omega)), RdP.on T5.out.rd.s b6, RdZ.on T5.out.rd.t b6⟩ hroom)
        (try dsimp only)
        repeat (first | go_values | go_skip | go_guarded | go_step | go_upon)
        go_meet
        exact ⟨_, A6, q6, E, d2, T, d3, HT, HB5, Lib.hid (by refine ⟨?_, ?_, ?_⟩ <;> (try simp only [List.length_append, List.length_cons, List.length_nil]) <;> omega)⟩
    · skip
      obtain ⟨yl, hcs⟩ : ∃ yl, y.tos = yl := ⟨_, rfl⟩
      rcases yl with _ | ⟨p0, tl⟩
      · rw [hcs] at x7_
        clear HBAD
        go_wp2_with (go_at_call 11; (with_reducible refine (HA.out _ T5.out.ds.fs.glob).mono ?_); rintro e w9 ⟨rfl, hb⟩; have T6 := Lib.hid (T5.out.step hb))
        go_ret
        exact ⟨rfl, T6.out.ds.fs.bel⟩
      rw [hcs, List.length_cons] at x7_
      have hn0 : ((tl.length : Int) + 1 == 0) = false := by rw [beq_eq_false_iff_ne]; omega
      have hn1 : ¬ ((tl.length : Int) + 1 = 0) := by omega
      obtain ⟨g2, o2, hE, -, -, -⟩ := T5.out.rd.t.get (i := 0) (by rw [hcs]; simp)
      have HCL := Lib.hid (show (miV y D d1 E d2 T d3)[7]? = some (.slice (some ⟨g2, o2, none⟩) (tl.length + 1) d3) from by show some (Value.slice T y.tos.length d3) = _; rw [hE, hcs]; rfl)
      have HEL := Lib.hid hE
      have HCP : Hid (y.tos.length ≤ d3) := HC7
      have y1 : (1 : Int) ≤ (tl.length : Int) + 1 := by omega
      have hyl1 : tl.length ≤ 20 := by have := hyl; rw [hcs] at this; simp only [List.length_cons] at this; omega
      clear hE
      have hyn : Mc.turnY f y wh 4 = ⟨y.kind, y.op, y.a, y.b, y.n, y.d, y.s, (f.code.length : Int) :: tl, y.trap⟩ := by unfold Mc.turnY; simp only [hcs]; rfl
      have HB5 := Lib.hid (hyn ▸ HBAD.out 4 (by omega))
      have HCS := Lib.hid hcs
      clear HBAD hyn hcs
      go_upto_region 25 with fail
      have SS : (fun W' => W'.cell? ⟨w.heap.size + 1, 3, none⟩ = some (.slice C f.code.length c3)) (World.drew W5) := T5.out.ds.fs.var.cells 3
      (try dsimp only at SS)
      refine wp_region_held_drew (S := (fun W' => W'.cell? ⟨w.heap.size + 1, 3, none⟩ = some (.slice C f.code.length c3))) (by kernel_rfl) ?_ (fun hHeld0 => ?_)
      · first | assumption | go_keep
      refine at_anyH (F := fun W => Hid (TSt w W m x f P c1 R c2 C c3 Kx y D d1 E d2 T d3) ∧ Hid (Var W Ko #[.bool false, .int .i64 8] 64) ∧ (fun W' => W'.cell? ⟨w.heap.size + 1, 3, none⟩ = some (.slice C f.code.length c3)) W) ⟨Lib.hid (T5.out.step (below_drewN _ 1)), VO, hHeld0⟩ ?_
      clear hHeld0 T5 VO SS x0_ x1_ x2_ x3_ x4_ x5_ x6_ x7_ x8_
      rintro W0 ⟨T5, VO, hHeld0⟩
      (try dsimp only at hHeld0)
      have b0 := Below.refl W0.heap.size W0
      have hKo := VO.out.lt
      have hKx := T5.out.xv.lt
      have hne := HNE.out
      have hKf := T5.out.ds.fs.var.lt
      have HTL := Lib.hid (fun U (hb : Below W0.heap.size W0 U) => tail_row (by have hh := RdZ.on T5.out.rd.t hb; rw [HEL.out, HCS.out] at hh; exact hh) d3 (by have := HCP.out; rw [HCS.out] at this; exact this))
      refine tk (i := 0) (oi := ⟨some 106, .fieldAddr 39 (.tmp 5) 2, 0, "law.go:149", #[], none⟩) rfl ?_; (try simp only [Act.put, List.setIfInBounds_toArray, List.set_cons_succ, List.set_cons_zero])
      refine tk (i := 1) (oi := ⟨some 107, .load 37 (.tmp 106), 37, "law.go:149", #[⟨0, .data⟩], none⟩) rfl ?_; (try simp only [Act.put, List.setIfInBounds_toArray, List.set_cons_succ, List.set_cons_zero])
      refine tk (i := 2) (oi := ⟨some 108, .call { callee := .builtin .len, args := #[.tmp 107], argTypes := #[37] }, 3, "law.go:149", #[⟨1, .data⟩], none⟩) rfl ?_; (try simp only [Act.put, List.setIfInBounds_toArray, List.set_cons_succ, List.set_cons_zero])
      refine tk (i := 4) (oi := ⟨some 110, .fieldAddr 61 (.tmp 12) 7, 0, "law.go:149", #[], none⟩) rfl ?_; (try simp only [Act.put, List.setIfInBounds_toArray, List.set_cons_succ, List.set_cons_zero])
      refine wpAnyH_ready (rs := [3, 5]) (by kernel_rfl) (by simp) ?_
      refine (AllReadyH.cons (o := ⟨some 109, .buildSlice 58 1 #[(0, .tmp 108)], 58, "law.go:149", #[⟨2, .data⟩], none⟩) rfl (fun K hK => ?_) (AllReadyH.cons (o := ⟨some 111, .load 58 (.tmp 110), 58, "law.go:149", #[⟨4, .data⟩], none⟩) rfl (fun K hK => ?_) AllReadyH.nil))
      · skip
        go_simp
        (have b1 := b0.alloc b0.size (.cells #[.int .i64 (f.code.length : Int)] 3); have ow := lit_own2 (base := W0.heap.size) (enc := encZ) (k := 1) (n := 1) (e := 3) (l := [((f.code.length : Int) : Int)]) (cs := #[.int .i64 (f.code.length : Int)]) (W0) b0.size rfl encZ_len rfl (by omega); have ss1 : (fun W' => W'.cell? ⟨w.heap.size + 1, 3, none⟩ = some (.slice C f.code.length c3)) (W0.alloc (.cells #[.int .i64 (f.code.length : Int)] 3)) := (T5.out.ds.fs.var.below b1 hKf).cells 3; (try dsimp only at ss1))
        (try dsimp only)
        refine hK.out _ _ ?_ (fun hHeld1 => ?_)
        · first | trivial | ((try dsimp only); first | assumption | trivial | go_keep)
        clear hK K hHeld0
        (try simp only [Act.put, List.setIfInBounds_toArray, List.set_cons_succ, List.set_cons_zero])
        refine wpAnyH_ready (rs := [5]) (by kernel_rfl) (by simp) ?_
        refine (AllReadyH.cons (o := ⟨some 111, .load 58 (.tmp 110), 58, "law.go:149", #[⟨4, .data⟩], none⟩) rfl (fun K hK => ?_) AllReadyH.nil)
        (have b2 := b1; have cl : ((W0.alloc (.cells #[.int .i64 (f.code.length : Int)] 3))).cell? ⟨Kx, 7, none⟩ = some (.slice (some ⟨g2, o2, none⟩) (tl.length + 1) d3) := ((T5.out.xv.below b1 hKx).cells 7).trans HCL.out; go_simp; have ss2 : (fun W' => W'.cell? ⟨w.heap.size + 1, 3, none⟩ = some (.slice C f.code.length c3)) ((W0.alloc (.cells #[.int .i64 (f.code.length : Int)] 3))) := (T5.out.ds.fs.var.below b2 hKf).cells 3; (try dsimp only at ss2))
        (try dsimp only)
        refine hK.out _ _ ?_ (fun hHeld2 => ?_)
        · first | trivial | ((try dsimp only); first | assumption | trivial | go_keep)
        clear hK K hHeld1
        (try simp only [Act.put, List.setIfInBounds_toArray, List.set_cons_succ, List.set_cons_zero])
        refine tk (i := 6) (oi := ⟨some 112, .slice 58 (.tmp 111) (some (.const (.int .i64 1))) none none, 58, "law.go:149", #[⟨5, .data⟩], none⟩) rfl ?_; (try simp only [Act.put, List.setIfInBounds_toArray, List.set_cons_succ, List.set_cons_zero])
        refine wpAnyH_ready (rs := [7]) (by kernel_rfl) (by simp) ?_
        refine (AllReadyH.cons (o := ⟨some 113, .call { callee := .builtin .append, args := #[.tmp 109, .tmp 112], argTypes := #[58, 58] }, 58, "law.go:149", #[⟨3, .data⟩, ⟨6, .data⟩], none⟩) rfl (fun K hK => ?_) AllReadyH.nil)
        (refine step_appN Tryz.underlying58 hj0 kz0 kz1 kz2 rfl (by omega) encZ_len encZ_one _ rfl (.tmp 109) (.tmp 112) rfl W0.heap.size (.slice (some ⟨W0.heap.size, 0, none⟩) 1 1) 1 [(f.code.length : Int)] (by rfl) ow tl tl.length (d3 - 1) (if d3 = 1 then some ⟨g2, o2, none⟩ else some ⟨g2, o2 + 1, none⟩) rfl (by rfl) (RdS.reads encZ_len (RdZ.rds (HTL.out _ b2))) (tl.length + 1) (by omega) ((f.code.length : Int) :: tl) rfl (by omega) (by omega) b2.size ?_; intro A6 q6 w6 ow6 hg6 hob6; have b6 := b2.grown hg6 b2.size (fun j hj => (ow.lt j hj).1); have vx := T5.out.xv.below b6 hKx; have e7 := vx.cells 7; have z7 := vx.froz 7; have l7 := vx.lt; have ss3 : (fun W' => W'.cell? ⟨w.heap.size + 1, 3, none⟩ = some (.slice C f.code.length c3)) (w6) := (T5.out.ds.fs.var.below b6 hKf).cells 3; (try dsimp only at ss3))
        (try dsimp only)
        refine hK.out _ _ ?_ (fun hHeld3 => ?_)
        · first | trivial | ((try dsimp only); first | assumption | trivial | go_keep)
        clear hK K hHeld2
        (try simp only [Act.put, List.setIfInBounds_toArray, List.set_cons_succ, List.set_cons_zero])
        refine tk (i := 8) (oi := ⟨some 114, .fieldAddr 61 (.tmp 12) 7, 0, "law.go:149", #[⟨0, .phase⟩, ⟨1, .phase⟩, ⟨2, .phase⟩, ⟨3, .phase⟩, ⟨4, .phase⟩, ⟨5, .phase⟩, ⟨6, .phase⟩, ⟨7, .phase⟩], none⟩) rfl ?_; (try simp only [Act.put, List.setIfInBounds_toArray, List.set_cons_succ, List.set_cons_zero])
        refine wpAnyH_ready (rs := [9]) (by kernel_rfl) (by simp) ?_
        refine (AllReadyH.cons (o := ⟨none, .store 58 (.tmp 114) (.tmp 113), 0, "law.go:149", #[⟨8, .data⟩, ⟨7, .data⟩, ⟨7, .chain⟩, ⟨0, .phase⟩, ⟨1, .phase⟩, ⟨2, .phase⟩, ⟨3, .phase⟩, ⟨4, .phase⟩, ⟨5, .phase⟩, ⟨6, .phase⟩, ⟨7, .phase⟩], none⟩) rfl (fun K hK => ?_) AllReadyH.nil)
        go_simp
        (have ss9 : (fun W' => W'.cell? ⟨w.heap.size + 1, 3, none⟩ = some (.slice C f.code.length c3)) (w6.setCell ⟨Kx, 7, none⟩ (.slice A6 (tl.length + 1) q6)) := ((T5.out.ds.fs.var.below b6 hKf).other (by have := T5.out.lo; omega) _ _).cells 3; (try dsimp only at ss9))
        (try dsimp only)
        refine hK.out _ _ ?_ (fun hHeld4 => ?_)
        · first | trivial | ((try dsimp only); first | assumption | trivial | go_keep)
        clear hK K hHeld3
        (try simp only [Act.put, List.setIfInBounds_toArray, List.set_cons_succ, List.set_cons_zero])
        refine wpAnyH_done (by kernel_rfl) ?_ _
        have hroom := own_room ow6
        have ow7 := ow6
        rw [show tl.length + 1 = (((f.code.length : Int) : Int) :: tl).length from rfl] at ow7
        have HT := Lib.hid (T5.out.put b6 7 (.slice A6 (tl.length + 1) q6) (y' := ⟨y.kind, y.op, y.a, y.b, y.n, y.d, y.s, (f.code.length : Int) :: tl, y.trap⟩) (D' := D) (E' := E) (T' := A6) (e1 := d1) (e2 := d2) (e3 := q6) (by simp [miV]) ⟨RdP.on T5.out.rd.d b6, RdP.on T5.out.rd.s b6, RdZ.mono (own_rdz ow7) (fun g _ hg => .inr (by omega))⟩ T5.out.cp)
        (try dsimp only)
        repeat (first | go_values | go_skip | go_guarded | go_step | go_upon)
        go_meet
        exact ⟨_, D, d1, E, d2, A6, q6, HT, HB5, Lib.hid (by refine ⟨?_, ?_, ?_⟩ <;> (try simp only [List.length_append, List.length_cons, List.length_nil]) <;> omega)⟩
      · skip
        (have b1 := b0; have cl : (W0).cell? ⟨Kx, 7, none⟩ = some (.slice (some ⟨g2, o2, none⟩) (tl.length + 1) d3) := ((T5.out.xv.below b0 hKx).cells 7).trans HCL.out; go_simp; have ss1 : (fun W' => W'.cell? ⟨w.heap.size + 1, 3, none⟩ = some (.slice C f.code.length c3)) (W0) := (T5.out.ds.fs.var.below b1 hKf).cells 3; (try dsimp only at ss1))
        (try dsimp only)
        refine hK.out _ _ ?_ (fun hHeld1 => ?_)
        · first | trivial | ((try dsimp only); first | assumption | trivial | go_keep)
        clear hK K hHeld0
        (try simp only [Act.put, List.setIfInBounds_toArray, List.set_cons_succ, List.set_cons_zero])
        refine tk (i := 6) (oi := ⟨some 112, .slice 58 (.tmp 111) (some (.const (.int .i64 1))) none none, 58, "law.go:149", #[⟨5, .data⟩], none⟩) rfl ?_; (try simp only [Act.put, List.setIfInBounds_toArray, List.set_cons_succ, List.set_cons_zero])
        refine wpAnyH_ready (rs := [3]) (by kernel_rfl) (by simp) ?_
        refine (AllReadyH.cons (o := ⟨some 109, .buildSlice 58 1 #[(0, .tmp 108)], 58, "law.go:149", #[⟨2, .data⟩], none⟩) rfl (fun K hK => ?_) AllReadyH.nil)
        go_simp
        (have b2 := b1.alloc b1.size (.cells #[.int .i64 (f.code.length : Int)] 3); have ow := lit_own2 (base := W0.heap.size) (enc := encZ) (k := 1) (n := 1) (e := 3) (l := [((f.code.length : Int) : Int)]) (cs := #[.int .i64 (f.code.length : Int)]) (W0) b1.size rfl encZ_len rfl (by omega); have ss2 : (fun W' => W'.cell? ⟨w.heap.size + 1, 3, none⟩ = some (.slice C f.code.length c3)) (W0.alloc (.cells #[.int .i64 (f.code.length : Int)] 3)) := (T5.out.ds.fs.var.below b2 hKf).cells 3; (try dsimp only at ss2))
        (try dsimp only)
        refine hK.out _ _ ?_ (fun hHeld2 => ?_)
        · first | trivial | ((try dsimp only); first | assumption | trivial | go_keep)
        clear hK K hHeld1
        (try simp only [Act.put, List.setIfInBounds_toArray, List.set_cons_succ, List.set_cons_zero])
        refine wpAnyH_ready (rs := [7]) (by kernel_rfl) (by simp) ?_
        refine (AllReadyH.cons (o := ⟨some 113, .call { callee := .builtin .append, args := #[.tmp 109, .tmp 112], argTypes := #[58, 58] }, 58, "law.go:149", #[⟨3, .data⟩, ⟨6, .data⟩], none⟩) rfl (fun K hK => ?_) AllReadyH.nil)
        (refine step_appN Tryz.underlying58 hj0 kz0 kz1 kz2 rfl (by omega) encZ_len encZ_one _ rfl (.tmp 109) (.tmp 112) rfl W0.heap.size (.slice (some ⟨W0.heap.size, 0, none⟩) 1 1) 1 [(f.code.length : Int)] (by rfl) ow tl tl.length (d3 - 1) (if d3 = 1 then some ⟨g2, o2, none⟩ else some ⟨g2, o2 + 1, none⟩) rfl (by rfl) (RdS.reads encZ_len (RdZ.rds (HTL.out _ b2))) (tl.length + 1) (by omega) ((f.code.length : Int) :: tl) rfl (by omega) (by omega) b2.size ?_; intro A6 q6 w6 ow6 hg6 hob6; have b6 := b2.grown hg6 b2.size (fun j hj => (ow.lt j hj).1); have vx := T5.out.xv.below b6 hKx; have e7 := vx.cells 7; have z7 := vx.froz 7; have l7 := vx.lt; have ss3 : (fun W' => W'.cell? ⟨w.heap.size + 1, 3, none⟩ = some (.slice C f.code.length c3)) (w6) := (T5.out.ds.fs.var.below b6 hKf).cells 3; (try dsimp only at ss3))
        (try dsimp only)
        refine hK.out _ _ ?_ (fun hHeld3 => ?_)
        · first | trivial | ((try dsimp only); first | assumption | trivial | go_keep)
        clear hK K hHeld2
        (try simp only [Act.put, List.setIfInBounds_toArray, List.set_cons_succ, List.set_cons_zero])
        refine tk (i := 8) (oi := ⟨some 114, .fieldAddr 61 (.tmp 12) 7, 0, "law.go:149", #[⟨0, .phase⟩, ⟨1, .phase⟩, ⟨2, .phase⟩, ⟨3, .phase⟩, ⟨4, .phase⟩, ⟨5, .phase⟩, ⟨6, .phase⟩, ⟨7, .phase⟩], none⟩) rfl ?_; (try simp only [Act.put, List.setIfInBounds_toArray, List.set_cons_succ, List.set_cons_zero])
        refine wpAnyH_ready (rs := [9]) (by kernel_rfl) (by simp) ?_
        refine (AllReadyH.cons (o := ⟨none, .store 58 (.tmp 114) (.tmp 113), 0, "law.go:149", #[⟨8, .data⟩, ⟨7, .data⟩, ⟨7, .chain⟩, ⟨0, .phase⟩, ⟨1, .phase⟩, ⟨2, .phase⟩, ⟨3, .phase⟩, ⟨4, .phase⟩, ⟨5, .phase⟩, ⟨6, .phase⟩, ⟨7, .phase⟩], none⟩) rfl (fun K hK => ?_) AllReadyH.nil)
        go_simp
        (have ss9 : (fun W' => W'.cell? ⟨w.heap.size + 1, 3, none⟩ = some (.slice C f.code.length c3)) (w6.setCell ⟨Kx, 7, none⟩ (.slice A6 (tl.length + 1) q6)) := ((T5.out.ds.fs.var.below b6 hKf).other (by have := T5.out.lo; omega) _ _).cells 3; (try dsimp only at ss9))
        (try dsimp only)
        refine hK.out _ _ ?_ (fun hHeld4 => ?_)
        · first | trivial | ((try dsimp only); first | assumption | trivial | go_keep)
        clear hK K hHeld3
        (try simp only [Act.put, List.setIfInBounds_toArray, List.set_cons_succ, List.set_cons_zero])
        refine wpAnyH_done (by kernel_rfl) ?_ _
        have hroom := own_room ow6
        have ow7 := ow6
        rw [show tl.length + 1 = (((f.code.length : Int) : Int) :: tl).length from rfl] at ow7
        have HT := Lib.hid (T5.out.put b6 7 (.slice A6 (tl.length + 1) q6) (y' := ⟨y.kind, y.op, y.a, y.b, y.n, y.d, y.s, (f.code.length : Int) :: tl, y.trap⟩) (D' := D) (E' := E) (T' := A6) (e1 := d1) (e2 := d2) (e3 := q6) (by simp [miV]) ⟨RdP.on T5.out.rd.d b6, RdP.on T5.out.rd.s b6, RdZ.mono (own_rdz ow7) (fun g _ hg => .inr (by omega))⟩ T5.out.cp)
        (try dsimp only)
        repeat (first | go_values | go_skip | go_guarded | go_step | go_upon)
        go_meet
        exact ⟨_, D, d1, E, d2, A6, q6, HT, HB5, Lib.hid (by refine ⟨?_, ?_, ?_⟩ <;> (try simp only [List.length_append, List.length_cons, List.length_nil]) <;> omega)⟩
    · skip
      have hw1 : IntKind.i64.wrap (24 + (wh : Int)) = 24 + (wh : Int) := by rw [IntKind.wrap_i64]; omega
      have HB5 := Lib.hid (HBAD.out 5 (by omega))
      have hz := T5.out.xv.froz 0
      have hlt := T5.out.xv.lt
      have HT := Lib.hid (T5.out.put (Below.refl _ _) 0 (.int .i64 (24 + (wh : Int))) (y' := ⟨24 + (wh : Int), y.op, y.a, y.b, y.n, y.d, y.s, y.tos, y.trap⟩) rfl ⟨T5.out.rd.d, T5.out.rd.s, T5.out.rd.t⟩ T5.out.cp)
      clear HBAD T5 VO x1_ x2_ x3_ x4_ x5_ x6_ x7_ x8_
      go_wp2_with fail
      go_meet
      exact ⟨_, D, d1, E, d2, T, d3, HT, HB5, Lib.hid (by refine ⟨?_, ?_, ?_⟩ <;> (try simp only [List.length_append, List.length_cons, List.length_nil]) <;> omega)⟩
    · skip
      by_cases hk : y.kind = 23
      · have hk1 : (y.kind == 23) = true := by simpa using hk
        have hk2 := hk
        clear HBAD hyl
        go_wp2_with (go_at_call 11; (with_reducible refine (HA.out _ T5.out.ds.fs.glob).mono ?_); rintro e w9 ⟨rfl, hb⟩; have T6 := Lib.hid (T5.out.step hb))
        go_ret
        exact ⟨rfl, T6.out.ds.fs.bel⟩
      · have hk1 : (y.kind == 23) = false := by simpa using hk
        have HB5 := Lib.hid (HBAD.out 6 (fun _ => hk))
        have hz := T5.out.xv.froz 8
        have hlt := T5.out.xv.lt
        have HT := Lib.hid (T5.out.put (Below.refl _ _) 8 (.int .i64 10) (y' := ⟨y.kind, y.op, y.a, y.b, y.n, y.d, y.s, y.tos, 10⟩) rfl ⟨T5.out.rd.d, T5.out.rd.s, T5.out.rd.t⟩ T5.out.cp)
        clear HBAD T5 VO x1_ x2_ x3_ x4_ x5_ x6_ x7_
        go_wp2_with fail
        go_meet
        exact ⟨_, D, d1, E, d2, T, d3, HT, HB5, Lib.hid (by refine ⟨?_, ?_, ?_⟩ <;> (try simp only [List.length_append, List.length_cons, List.length_nil]) <;> omega)⟩
  case rest =>
  clear T5 VO HY HBAD HC6 HC7 HNE hq6
  obtain ⟨y', D', e1, E', e2, T', e3, T6, HBD, HBN⟩ := hcut
  obtain ⟨y0, y1, y2, y3⟩ := mfV_cells T6.out.ds.fs.var
  go_upto_region 33 with fail
  have hKX := Lib.hid T6.out.xv.lt
  have hKF := Lib.hid T6.out.ds.fs.var.lt
  have HRY : Hid (MiRd (fun g => g ≠ wc.heap.size) wc y' D' E' T') := Lib.hid (T6.out.rd.mono fun g hg _ => by omega)
  refine at_code (F := fun W => Hid (TSt w W m x f P c1 R c2 C c3 Kx y' D' e1 E' e2 T' e3) ∧ Hid (Var W wc.heap.size (mfV f P c1 R c2 C c3) 39) ∧ Hid (MiRd (fun g => g ≠ wc.heap.size) W y' D' E' T')) ⟨Lib.hid (T6.out.step ((Below.refl _ _).alloc (Nat.le_refl _) _)), Lib.hid (Var.new _ _ _), Lib.hid (HRY.out.on ((Below.refl _ _).alloc (Nat.le_refl _) _))⟩ ?_
  clear T6 HRY y0 y1 y2 y3
  obtain ⟨Kg, hKg⟩ : ∃ K, wc.heap.size = K := ⟨_, rfl⟩
  simp only [hKg]
  have HK1 : Hid (Kx < Kg) := Lib.hid (by have := hKX.out; omega)
  have HK2 : Hid (w.heap.size + 1 < Kg) := Lib.hid (by have := hKF.out; omega)
  clear hKg hKX hKF
  rintro W6 ⟨T6, VG, HRY⟩
  have hw1 : IntKind.i64.wrap ((k : Int) + 1) = (k : Int) + 1 := by rw [IntKind.wrap_i64]; omega
  have hw2 : wrap64 ((k : Int) + 1) = (k : Int) + 1 := by unfold wrap64; omega
  have hc0 : ¬ c3 = 0 := by omega
  have hkc : (k : Int) ≤ (c3 : Int) := by omega
  have hkc2 : k ≤ c3 := by omega
  have hkl1 : (k : Int) + 1 ≤ (f.code.length : Int) := by omega
  have hkl2 : (0 : Int) ≤ (k : Int) + 1 := by omega
  go_cut [] from 129 to 144 (fun wx => ∃ (A9 : Option Addr) (q9 : Nat), Hid (DSt w wx m x (fun g => g < w.heap.size) f (fun g => g < w.heap.size) P c1 R c2 C c3) ∧ Hid (Var wx Kg ((mfV f P c1 R c2 C c3).setIfInBounds 3 (.slice A9 f.code.length q9)) 39) ∧ Hid (MfAt (fun g => g ≠ Kg) wx ⟨f.ps, f.rs, f.slots, f.code.take k ++ (y' :: f.code.drop (k + 1))⟩ P R A9))
  case first =>
    obtain ⟨zI, bI, hinfo, hzs, hbb⟩ := info_mi
    obtain ⟨i0, hi0, hz0, hz1, hz2⟩ := info_parts hinfo
    have HCE : Hid ((mfV f P c1 R c2 C c3)[3]? = some (.slice (some ⟨g, o, none⟩) f.code.length c3)) := Lib.hid (by show some (Value.slice C f.code.length c3) = _; rw [HAE.out])
    have SS : (fun W' => W'.cell? ⟨w.heap.size + 1, 3, none⟩ = some (.slice (some ⟨g, o, none⟩) f.code.length c3) ∧ W'.cell? ⟨Kx, 0, none⟩ = some (.int .i64 y'.kind) ∧ W'.cell? ⟨Kx, 1, none⟩ = some (.int .i64 y'.op) ∧ W'.cell? ⟨Kx, 2, none⟩ = some (.int .i64 y'.a) ∧ W'.cell? ⟨Kx, 3, none⟩ = some (.int .i64 y'.b) ∧ W'.cell? ⟨Kx, 4, none⟩ = some (.int .u64 (y'.n : Int)) ∧ W'.cell? ⟨Kx, 5, none⟩ = some (.slice D' y'.d.length e1) ∧ W'.cell? ⟨Kx, 6, none⟩ = some (.slice E' y'.s.length e2) ∧ W'.cell? ⟨Kx, 7, none⟩ = some (.slice T' y'.tos.length e3) ∧ W'.cell? ⟨Kx, 8, none⟩ = some (.int .i64 y'.trap)) (World.drew W6) := ⟨(T6.out.ds.fs.var.cells 3).trans HCE.out, T6.out.xv.cells 0, T6.out.xv.cells 1, T6.out.xv.cells 2, T6.out.xv.cells 3, T6.out.xv.cells 4, T6.out.xv.cells 5, T6.out.xv.cells 6, T6.out.xv.cells 7, T6.out.xv.cells 8⟩
    (try dsimp only at SS)
    refine wp_region_held_drew (S := (fun W' => W'.cell? ⟨w.heap.size + 1, 3, none⟩ = some (.slice (some ⟨g, o, none⟩) f.code.length c3) ∧ W'.cell? ⟨Kx, 0, none⟩ = some (.int .i64 y'.kind) ∧ W'.cell? ⟨Kx, 1, none⟩ = some (.int .i64 y'.op) ∧ W'.cell? ⟨Kx, 2, none⟩ = some (.int .i64 y'.a) ∧ W'.cell? ⟨Kx, 3, none⟩ = some (.int .i64 y'.b) ∧ W'.cell? ⟨Kx, 4, none⟩ = some (.int .u64 (y'.n : Int)) ∧ W'.cell? ⟨Kx, 5, none⟩ = some (.slice D' y'.d.length e1) ∧ W'.cell? ⟨Kx, 6, none⟩ = some (.slice E' y'.s.length e2) ∧ W'.cell? ⟨Kx, 7, none⟩ = some (.slice T' y'.tos.length e3) ∧ W'.cell? ⟨Kx, 8, none⟩ = some (.int .i64 y'.trap))) (by kernel_rfl) ?_ (fun hHeld0 => ?_)
    · first | assumption | go_keep
    refine at_anyH (F := fun W => Hid (TSt w W m x f P c1 R c2 C c3 Kx y' D' e1 E' e2 T' e3) ∧ Hid (Var W Kg (mfV f P c1 R c2 C c3) 39) ∧ Hid (MiRd (fun g => g ≠ Kg) W y' D' E' T') ∧ (fun W' => W'.cell? ⟨w.heap.size + 1, 3, none⟩ = some (.slice (some ⟨g, o, none⟩) f.code.length c3) ∧ W'.cell? ⟨Kx, 0, none⟩ = some (.int .i64 y'.kind) ∧ W'.cell? ⟨Kx, 1, none⟩ = some (.int .i64 y'.op) ∧ W'.cell? ⟨Kx, 2, none⟩ = some (.int .i64 y'.a) ∧ W'.cell? ⟨Kx, 3, none⟩ = some (.int .i64 y'.b) ∧ W'.cell? ⟨Kx, 4, none⟩ = some (.int .u64 (y'.n : Int)) ∧ W'.cell? ⟨Kx, 5, none⟩ = some (.slice D' y'.d.length e1) ∧ W'.cell? ⟨Kx, 6, none⟩ = some (.slice E' y'.s.length e2) ∧ W'.cell? ⟨Kx, 7, none⟩ = some (.slice T' y'.tos.length e3) ∧ W'.cell? ⟨Kx, 8, none⟩ = some (.int .i64 y'.trap)) W) ⟨Lib.hid (T6.out.step (below_drewN _ 1)), VG, Lib.hid (HRY.out.on (below_drewN _ 1)), hHeld0⟩ ?_
    clear hHeld0 T6 VG HRY SS
    rintro W0 ⟨T6, VG, HRY, hHeld0⟩
    (try dsimp only at hHeld0)
    have b0 := Below.refl W0.heap.size W0
    have hKx := T6.out.xv.lt
    have hKf := T6.out.ds.fs.var.lt
    have hKg := VG.out.lt
    have hK1 := HK1.out
    have hK2 := HK2.out
    have hKg2 : w.heap.size + 2 ≤ Kg := by omega
    have hSK : ∀ j : Nat, ∀ g, g < j → g < w.heap.size → g ≠ Kg := fun j g _ h => by omega
    obtain ⟨L1, hm1, hr1, hv1⟩ := mv_row (RdM.take T6.out.ds.fs.at_.code k)
    obtain ⟨L2, hm2, hr2, hv2⟩ := mv_row (RdT.dropK T6.out.ds.fs.at_.code (k + 1) c3 hc3)
    have hk1 : L1.length = k := by have := congrArg List.length hm1; rw [List.length_map, List.length_take] at this; omega
    have hk2 : L2.length = f.code.length - (k + 1) := by have := congrArg List.length hm2; rw [List.length_map, List.length_drop] at this; exact this
    rw [hk1, HAE.out] at hr1
    rw [hk2, HAE.out, Option.map_some, add_plain] at hr2
    have HR1 := Lib.hid hr1
    have HR2 := Lib.hid hr2
    have HV1 := Lib.hid (fun z hz => (hv1 z hz).mono fun g hg h => hSK _ g hg h)
    have HV2 := Lib.hid (fun z hz => (hv2 z hz).mono fun g hg h => hSK _ g hg h)
    have HVY : Hid (MvRd (fun g => g ≠ Kg) W0 ((y', (D', e1), (E', e2), T', e3) : MV)) := Lib.hid ⟨HRY.out, T6.out.cp⟩
    clear hr1 hr2 hv1 hv2
    refine tk (i := 1) (oi := ⟨some 130, .fieldAddr 39 (.tmp 5) 2, 0, "law.go:159", #[], none⟩) rfl ?_; (try simp only [Act.put, List.setIfInBounds_toArray, List.set_cons_succ, List.set_cons_zero])
    refine tk (i := 2) (oi := ⟨some 131, .load 37 (.tmp 130), 37, "law.go:159", #[⟨1, .data⟩], none⟩) rfl ?_; (try simp only [Act.put, List.setIfInBounds_toArray, List.set_cons_succ, List.set_cons_zero])
    refine tk (i := 3) (oi := ⟨some 132, .move (.tmp 11), 3, "law.go:159", #[], none⟩) rfl ?_; (try simp only [Act.put, List.setIfInBounds_toArray, List.set_cons_succ, List.set_cons_zero])
    refine tk (i := 4) (oi := ⟨some 133, .slice 37 (.tmp 131) none (some (.tmp 132)) none, 37, "law.go:159", #[⟨2, .data⟩, ⟨3, .data⟩], none⟩) rfl ?_; (try simp only [Act.put, List.setIfInBounds_toArray, List.set_cons_succ, List.set_cons_zero])
    refine tk (i := 6) (oi := ⟨some 135, .load 61 (.tmp 12), 61, "law.go:159", #[], none⟩) rfl ?_; (try simp only [Act.put, List.setIfInBounds_toArray, List.set_cons_succ, List.set_cons_zero])
    refine tk (i := 9) (oi := ⟨some 138, .fieldAddr 39 (.tmp 5) 2, 0, "law.go:159", #[], none⟩) rfl ?_; (try simp only [Act.put, List.setIfInBounds_toArray, List.set_cons_succ, List.set_cons_zero])
    refine tk (i := 10) (oi := ⟨some 139, .load 37 (.tmp 138), 37, "law.go:159", #[⟨9, .data⟩], none⟩) rfl ?_; (try simp only [Act.put, List.setIfInBounds_toArray, List.set_cons_succ, List.set_cons_zero])
    refine tk (i := 11) (oi := ⟨some 140, .move (.tmp 11), 3, "law.go:159", #[], none⟩) rfl ?_; (try simp only [Act.put, List.setIfInBounds_toArray, List.set_cons_succ, List.set_cons_zero])
    refine tk (i := 12) (oi := ⟨some 141, .binOp .add 3 (.tmp 140) (.const (.int .i64 1)) 3, 3, "law.go:159", #[⟨11, .data⟩], none⟩) rfl ?_; (try simp only [Act.put, List.setIfInBounds_toArray, List.set_cons_succ, List.set_cons_zero])
    refine tk (i := 13) (oi := ⟨some 142, .slice 37 (.tmp 139) (some (.tmp 141)) none none, 37, "law.go:159", #[⟨10, .data⟩, ⟨12, .data⟩], none⟩) rfl ?_; (try simp only [Act.put, List.setIfInBounds_toArray, List.set_cons_succ, List.set_cons_zero])
    refine wpAnyH_ready (rs := [0, 7]) (by kernel_rfl) (by simp) ?_
    refine (AllReadyH.cons (o := ⟨some 129, .buildSlice 37 0 #[], 37, "law.go:159", #[], none⟩) rfl (fun K hK => ?_) (AllReadyH.cons (o := ⟨some 136, .buildSlice 37 1 #[(0, .tmp 135)], 37, "law.go:159", #[⟨6, .data⟩], none⟩) rfl (fun K hK => ?_) AllReadyH.nil))
    · skip
      go_simp
      (have b1 := b0.alloc b0.size (.cells #[] 61); have ow : (W0.alloc (.cells #[] 61)).ownsRow W0.heap.size 61 9 (.slice (some ⟨W0.heap.size, 0, none⟩) 0 0) 0 (([] : List MV).flatMap encM) := (by have hh := lit_own2 (base := W0.heap.size) (enc := encM) (k := 9) (n := 0) (e := 61) (l := []) (cs := #[]) (W0) b0.size rfl encM_len rfl (by omega); simpa using hh); have ss1 := T6.out.spr HCE b1)
      (try dsimp only)
      refine hK.out _ _ ?_ (fun hHeld1 => ?_)
      · first | trivial | ((try dsimp only); first | assumption | trivial | go_keep)
      clear hK K hHeld0
      (try simp only [Act.put, List.setIfInBounds_toArray, List.set_cons_succ, List.set_cons_zero])
      refine wpAnyH_ready (rs := [5, 7]) (by kernel_rfl) (by simp) ?_
      refine (AllReadyH.cons (o := ⟨some 134, .call { callee := .builtin .append, args := #[.tmp 129, .tmp 133], argTypes := #[37, 37] }, 37, "law.go:159", #[⟨0, .data⟩, ⟨4, .data⟩], none⟩) rfl (fun K hK => ?_) (AllReadyH.cons (o := ⟨some 136, .buildSlice 37 1 #[(0, .tmp 135)], 37, "law.go:159", #[⟨6, .data⟩], none⟩) rfl (fun K hK => ?_) AllReadyH.nil))
      · skip
        (refine step_appN Tryz.underlying37 hi0 hz0 hz1 hz2 hzs (by omega) encM_len encM_one _ rfl (.tmp 129) (.tmp 133) rfl W0.heap.size (.slice (some ⟨W0.heap.size, 0, none⟩) 0 0) 0 [] (by rfl) ow L1 k c3 (some ⟨g, o, none⟩) hk1 (by rfl) ((HR1.out.below b1).more b1.size) k (by omega) L1 rfl (by omega) hbb b1.size ?_; intro A5 q5 w5 ow5 hg5 hob5; have b2 := b1.grown hg5 b1.size (fun j hj => (ow.lt j hj).1); have ow := ow5; have ss2 := T6.out.spr HCE b2)
        (try dsimp only)
        refine hK.out _ _ ?_ (fun hHeld2 => ?_)
        · first | trivial | ((try dsimp only); first | assumption | trivial | go_keep)
        clear hK K hHeld1
        (try simp only [Act.put, List.setIfInBounds_toArray, List.set_cons_succ, List.set_cons_zero])
        refine wpAnyH_ready (rs := [7]) (by kernel_rfl) (by simp) ?_
        refine (AllReadyH.cons (o := ⟨some 136, .buildSlice 37 1 #[(0, .tmp 135)], 37, "law.go:159", #[⟨6, .data⟩], none⟩) rfl (fun K hK => ?_) AllReadyH.nil)
        go_simp
        (have b3 := b2.alloc b2.size (.cells #[.int .i64 y'.kind, .int .i64 y'.op, .int .i64 y'.a, .int .i64 y'.b, .int .u64 (y'.n : Int), .slice D' y'.d.length e1, .slice E' y'.s.length e2, .slice T' y'.tos.length e3, .int .i64 y'.trap] 61); have vo : Var (w5.alloc (.cells #[.int .i64 y'.kind, .int .i64 y'.op, .int .i64 y'.a, .int .i64 y'.b, .int .u64 (y'.n : Int), .slice D' y'.d.length e1, .slice E' y'.s.length e2, .slice T' y'.tos.length e3, .int .i64 y'.trap] 61)) (w5.heap.size) #[.int .i64 y'.kind, .int .i64 y'.op, .int .i64 y'.a, .int .i64 y'.b, .int .u64 (y'.n : Int), .slice D' y'.d.length e1, .slice E' y'.s.length e2, .slice T' y'.tos.length e3, .int .i64 y'.trap] 61 := (by have hh := Var.new (w5) #[.int .i64 y'.kind, .int .i64 y'.op, .int .i64 y'.a, .int .i64 y'.b, .int .u64 (y'.n : Int), .slice D' y'.d.length e1, .slice E' y'.s.length e2, .slice T' y'.tos.length e3, .int .i64 y'.trap] 61; simpa using hh); have ow := ow.alloc (.cells #[.int .i64 y'.kind, .int .i64 y'.op, .int .i64 y'.a, .int .i64 y'.b, .int .u64 (y'.n : Int), .slice D' y'.d.length e1, .slice E' y'.s.length e2, .slice T' y'.tos.length e3, .int .i64 y'.trap] 61); have ss3 := T6.out.spr HCE b3)
        (try dsimp only)
        refine hK.out _ _ ?_ (fun hHeld3 => ?_)
        · first | trivial | ((try dsimp only); first | assumption | trivial | go_keep)
        clear hK K hHeld2
        (try simp only [Act.put, List.setIfInBounds_toArray, List.set_cons_succ, List.set_cons_zero])
        refine wpAnyH_ready (rs := [8]) (by kernel_rfl) (by simp) ?_
        refine (AllReadyH.cons (o := ⟨some 137, .call { callee := .builtin .append, args := #[.tmp 134, .tmp 136], argTypes := #[37, 37] }, 37, "law.go:159", #[⟨5, .data⟩, ⟨7, .data⟩, ⟨5, .chain⟩], none⟩) rfl (fun K hK => ?_) AllReadyH.nil)
        (refine step_appN Tryz.underlying37 hi0 hz0 hz1 hz2 hzs (by omega) encM_len encM_one _ rfl (.tmp 134) (.tmp 136) rfl W0.heap.size (.slice A5 k q5) k L1 (by rfl) ow [((y', (D', e1), (E', e2), T', e3) : MV)] 1 1 (some ⟨w5.heap.size, 0, none⟩) rfl (by rfl) (block_reads (cs := #[.int .i64 y'.kind, .int .i64 y'.op, .int .i64 y'.a, .int .i64 y'.b, .int .u64 (y'.n : Int), .slice D' y'.d.length e1, .slice E' y'.s.length e2, .slice T' y'.tos.length e3, .int .i64 y'.trap]) (m := 1) (k := 9) rfl vo) (k + 1) rfl (L1 ++ [((y', (D', e1), (E', e2), T', e3) : MV)]) rfl (by omega) hbb b3.size ?_; intro A8 q8 w8 ow8 hg8 hob8; have b4 := b3.grown hg8 b3.size (fun j hj => (ow.lt j hj).1); have ss4 := T6.out.spr HCE b4)
        (try dsimp only)
        refine hK.out _ _ ?_ (fun hHeld4 => ?_)
        · first | trivial | ((try dsimp only); first | assumption | trivial | go_keep)
        clear hK K hHeld3
        (try simp only [Act.put, List.setIfInBounds_toArray, List.set_cons_succ, List.set_cons_zero])
        refine wpAnyH_ready (rs := [14]) (by kernel_rfl) (by simp) ?_
        refine (AllReadyH.cons (o := ⟨some 143, .call { callee := .builtin .append, args := #[.tmp 137, .tmp 142], argTypes := #[37, 37] }, 37, "law.go:159", #[⟨8, .data⟩, ⟨13, .data⟩, ⟨8, .chain⟩], none⟩) rfl (fun K hK => ?_) AllReadyH.nil)
        (refine step_appN Tryz.underlying37 hi0 hz0 hz1 hz2 hzs (by omega) encM_len encM_one _ rfl (.tmp 137) (.tmp 142) rfl W0.heap.size (.slice A8 (k + 1) q8) (k + 1) (L1 ++ [((y', (D', e1), (E', e2), T', e3) : MV)]) (by rfl) ow8 L2 (f.code.length - (k + 1)) (c3 - (k + 1)) (if c3 = k + 1 then some ⟨g, o, none⟩ else some ⟨g, o + (k + 1) * 9, none⟩) hk2 (by rfl) ((HR2.out.below b4).more b4.size) f.code.length (by omega) ((L1 ++ [((y', (D', e1), (E', e2), T', e3) : MV)]) ++ L2) rfl (by omega) hbb b4.size ?_; intro A9 q9 wE owE hgE hobE; have bE := b4.grown hgE b4.size (fun j hj => (ow8.lt j hj).1); have vg := VG.out.below bE hKg; have e7 := vg.cells 3; have z7 := vg.froz 3; have l7 := vg.lt; have ss5 := T6.out.spr HCE bE)
        (try dsimp only)
        refine hK.out _ _ ?_ (fun hHeld5 => ?_)
        · first | trivial | ((try dsimp only); first | assumption | trivial | go_keep)
        clear hK K hHeld4
        (try simp only [Act.put, List.setIfInBounds_toArray, List.set_cons_succ, List.set_cons_zero])
        refine tk (i := 15) (oi := ⟨some 144, .fieldAddr 39 (.tmp 14) 2, 0, "law.go:159", #[⟨0, .phase⟩, ⟨1, .phase⟩, ⟨2, .phase⟩, ⟨3, .phase⟩, ⟨4, .phase⟩, ⟨5, .phase⟩, ⟨6, .phase⟩, ⟨7, .phase⟩, ⟨8, .phase⟩, ⟨9, .phase⟩, ⟨10, .phase⟩, ⟨11, .phase⟩, ⟨12, .phase⟩, ⟨13, .phase⟩, ⟨14, .phase⟩], none⟩) rfl ?_; (try simp only [Act.put, List.setIfInBounds_toArray, List.set_cons_succ, List.set_cons_zero])
        refine wpAnyH_ready (rs := [16]) (by kernel_rfl) (by simp) ?_
        refine (AllReadyH.cons (o := ⟨none, .store 37 (.tmp 144) (.tmp 143), 0, "law.go:159", #[⟨15, .data⟩, ⟨14, .data⟩, ⟨14, .chain⟩, ⟨0, .phase⟩, ⟨1, .phase⟩, ⟨2, .phase⟩, ⟨3, .phase⟩, ⟨4, .phase⟩, ⟨5, .phase⟩, ⟨6, .phase⟩, ⟨7, .phase⟩, ⟨8, .phase⟩, ⟨9, .phase⟩, ⟨10, .phase⟩, ⟨11, .phase⟩, ⟨12, .phase⟩, ⟨13, .phase⟩, ⟨14, .phase⟩], none⟩) rfl (fun K hK => ?_) AllReadyH.nil)
        go_simp
        (have ss9 := T6.out.sprS HCE bE (Kg := Kg) (by omega) (by omega) (.slice A9 f.code.length q9))
        (try dsimp only)
        refine hK.out _ _ ?_ (fun hHeld6 => ?_)
        · first | trivial | ((try dsimp only); first | assumption | trivial | go_keep)
        clear hK K hHeld5
        (try simp only [Act.put, List.setIfInBounds_toArray, List.set_cons_succ, List.set_cons_zero])
        refine wpAnyH_done (by kernel_rfl) ?_ _
        have TE := T6.out.ds.step bE
        have HD := Lib.hid (TE.set hKg2 3 (.slice A9 f.code.length q9))
        have HVG := Lib.hid (vg.set 3 (.slice A9 f.code.length q9))
        have hlen9 : ((L1 ++ [((y', (D', e1), (E', e2), T', e3) : MV)]) ++ L2).length = f.code.length := by simp only [List.length_append, List.length_cons, List.length_nil]; omega
        have HMF := Lib.hid (set_code (v := ((y', (D', e1), (E', e2), T', e3) : MV)) (y := y') (f := f) (k := k) rfl hm1 hm2 ((RdZ.on T6.out.ds.fs.at_.ps bE).mono (hSK _)) ((RdZ.on T6.out.ds.fs.at_.rs bE).mono (hSK _)) hlen9 owE hKg (fun z hz => (HV1.out z hz).on bE) (HVY.out.on bE) (fun z hz => (HV2.out z hz).on bE) (.slice A9 f.code.length q9))
        (try dsimp only)
        repeat (first | go_values | go_skip | go_guarded | go_step | go_upon)
        go_meet
        exact ⟨A9, q9, HD, HVG, HMF⟩
      · skip
        go_simp
        (have b2 := b1.alloc b1.size (.cells #[.int .i64 y'.kind, .int .i64 y'.op, .int .i64 y'.a, .int .i64 y'.b, .int .u64 (y'.n : Int), .slice D' y'.d.length e1, .slice E' y'.s.length e2, .slice T' y'.tos.length e3, .int .i64 y'.trap] 61); have vo : Var ((W0.alloc (.cells #[] 61)).alloc (.cells #[.int .i64 y'.kind, .int .i64 y'.op, .int .i64 y'.a, .int .i64 y'.b, .int .u64 (y'.n : Int), .slice D' y'.d.length e1, .slice E' y'.s.length e2, .slice T' y'.tos.length e3, .int .i64 y'.trap] 61)) (W0.heap.size + 1) #[.int .i64 y'.kind, .int .i64 y'.op, .int .i64 y'.a, .int .i64 y'.b, .int .u64 (y'.n : Int), .slice D' y'.d.length e1, .slice E' y'.s.length e2, .slice T' y'.tos.length e3, .int .i64 y'.trap] 61 := (by have hh := Var.new ((W0.alloc (.cells #[] 61))) #[.int .i64 y'.kind, .int .i64 y'.op, .int .i64 y'.a, .int .i64 y'.b, .int .u64 (y'.n : Int), .slice D' y'.d.length e1, .slice E' y'.s.length e2, .slice T' y'.tos.length e3, .int .i64 y'.trap] 61; simpa using hh); have ow := ow.alloc (.cells #[.int .i64 y'.kind, .int .i64 y'.op, .int .i64 y'.a, .int .i64 y'.b, .int .u64 (y'.n : Int), .slice D' y'.d.length e1, .slice E' y'.s.length e2, .slice T' y'.tos.length e3, .int .i64 y'.trap] 61); have ss2 := T6.out.spr HCE b2)
        (try dsimp only)
        refine hK.out _ _ ?_ (fun hHeld2 => ?_)
        · first | trivial | ((try dsimp only); first | assumption | trivial | go_keep)
        clear hK K hHeld1
        (try simp only [Act.put, List.setIfInBounds_toArray, List.set_cons_succ, List.set_cons_zero])
        refine wpAnyH_ready (rs := [5]) (by kernel_rfl) (by simp) ?_
        refine (AllReadyH.cons (o := ⟨some 134, .call { callee := .builtin .append, args := #[.tmp 129, .tmp 133], argTypes := #[37, 37] }, 37, "law.go:159", #[⟨0, .data⟩, ⟨4, .data⟩], none⟩) rfl (fun K hK => ?_) AllReadyH.nil)
        (refine step_appN Tryz.underlying37 hi0 hz0 hz1 hz2 hzs (by omega) encM_len encM_one _ rfl (.tmp 129) (.tmp 133) rfl W0.heap.size (.slice (some ⟨W0.heap.size, 0, none⟩) 0 0) 0 [] (by rfl) ow L1 k c3 (some ⟨g, o, none⟩) hk1 (by rfl) ((HR1.out.below b2).more b2.size) k (by omega) L1 rfl (by omega) hbb b2.size ?_; intro A5 q5 w5 ow5 hg5 hob5; have b3 := b2.grown hg5 b2.size (fun j hj => (ow.lt j hj).1); have ow := ow5; have vo : Var w5 (W0.heap.size + 1) #[.int .i64 y'.kind, .int .i64 y'.op, .int .i64 y'.a, .int .i64 y'.b, .int .u64 (y'.n : Int), .slice D' y'.d.length e1, .slice E' y'.s.length e2, .slice T' y'.tos.length e3, .int .i64 y'.trap] 61 := var_stay vo (k := W0.heap.size) hg5 (by omega); have ss3 := T6.out.spr HCE b3)
        (try dsimp only)
        refine hK.out _ _ ?_ (fun hHeld3 => ?_)
        · first | trivial | ((try dsimp only); first | assumption | trivial | go_keep)
        clear hK K hHeld2
        (try simp only [Act.put, List.setIfInBounds_toArray, List.set_cons_succ, List.set_cons_zero])
        refine wpAnyH_ready (rs := [8]) (by kernel_rfl) (by simp) ?_
        refine (AllReadyH.cons (o := ⟨some 137, .call { callee := .builtin .append, args := #[.tmp 134, .tmp 136], argTypes := #[37, 37] }, 37, "law.go:159", #[⟨5, .data⟩, ⟨7, .data⟩, ⟨5, .chain⟩], none⟩) rfl (fun K hK => ?_) AllReadyH.nil)
        (refine step_appN Tryz.underlying37 hi0 hz0 hz1 hz2 hzs (by omega) encM_len encM_one _ rfl (.tmp 134) (.tmp 136) rfl W0.heap.size (.slice A5 k q5) k L1 (by rfl) ow [((y', (D', e1), (E', e2), T', e3) : MV)] 1 1 (some ⟨W0.heap.size + 1, 0, none⟩) rfl (by rfl) (block_reads (cs := #[.int .i64 y'.kind, .int .i64 y'.op, .int .i64 y'.a, .int .i64 y'.b, .int .u64 (y'.n : Int), .slice D' y'.d.length e1, .slice E' y'.s.length e2, .slice T' y'.tos.length e3, .int .i64 y'.trap]) (m := 1) (k := 9) rfl vo) (k + 1) rfl (L1 ++ [((y', (D', e1), (E', e2), T', e3) : MV)]) rfl (by omega) hbb b3.size ?_; intro A8 q8 w8 ow8 hg8 hob8; have b4 := b3.grown hg8 b3.size (fun j hj => (ow.lt j hj).1); have ss4 := T6.out.spr HCE b4)
        (try dsimp only)
        refine hK.out _ _ ?_ (fun hHeld4 => ?_)
        · first | trivial | ((try dsimp only); first | assumption | trivial | go_keep)
        clear hK K hHeld3
        (try simp only [Act.put, List.setIfInBounds_toArray, List.set_cons_succ, List.set_cons_zero])
        refine wpAnyH_ready (rs := [14]) (by kernel_rfl) (by simp) ?_
        refine (AllReadyH.cons (o := ⟨some 143, .call { callee := .builtin .append, args := #[.tmp 137, .tmp 142], argTypes := #[37, 37] }, 37, "law.go:159", #[⟨8, .data⟩, ⟨13, .data⟩, ⟨8, .chain⟩], none⟩) rfl (fun K hK => ?_) AllReadyH.nil)
        (refine step_appN Tryz.underlying37 hi0 hz0 hz1 hz2 hzs (by omega) encM_len encM_one _ rfl (.tmp 137) (.tmp 142) rfl W0.heap.size (.slice A8 (k + 1) q8) (k + 1) (L1 ++ [((y', (D', e1), (E', e2), T', e3) : MV)]) (by rfl) ow8 L2 (f.code.length - (k + 1)) (c3 - (k + 1)) (if c3 = k + 1 then some ⟨g, o, none⟩ else some ⟨g, o + (k + 1) * 9, none⟩) hk2 (by rfl) ((HR2.out.below b4).more b4.size) f.code.length (by omega) ((L1 ++ [((y', (D', e1), (E', e2), T', e3) : MV)]) ++ L2) rfl (by omega) hbb b4.size ?_; intro A9 q9 wE owE hgE hobE; have bE := b4.grown hgE b4.size (fun j hj => (ow8.lt j hj).1); have vg := VG.out.below bE hKg; have e7 := vg.cells 3; have z7 := vg.froz 3; have l7 := vg.lt; have ss5 := T6.out.spr HCE bE)
        (try dsimp only)
        refine hK.out _ _ ?_ (fun hHeld5 => ?_)
        · first | trivial | ((try dsimp only); first | assumption | trivial | go_keep)
        clear hK K hHeld4
        (try simp only [Act.put, List.setIfInBounds_toArray, List.set_cons_succ, List.set_cons_zero])
        refine tk (i := 15) (oi := ⟨some 144, .fieldAddr 39 (.tmp 14) 2, 0, "law.go:159", #[⟨0, .phase⟩, ⟨1, .phase⟩, ⟨2, .phase⟩, ⟨3, .phase⟩, ⟨4, .phase⟩, ⟨5, .phase⟩, ⟨6, .phase⟩, ⟨7, .phase⟩, ⟨8, .phase⟩, ⟨9, .phase⟩, ⟨10, .phase⟩, ⟨11, .phase⟩, ⟨12, .phase⟩, ⟨13, .phase⟩, ⟨14, .phase⟩], none⟩) rfl ?_; (try simp only [Act.put, List.setIfInBounds_toArray, List.set_cons_succ, List.set_cons_zero])
        refine wpAnyH_ready (rs := [16]) (by kernel_rfl) (by simp) ?_
        refine (AllReadyH.cons (o := ⟨none, .store 37 (.tmp 144) (.tmp 143), 0, "law.go:159", #[⟨15, .data⟩, ⟨14, .data⟩, ⟨14, .chain⟩, ⟨0, .phase⟩, ⟨1, .phase⟩, ⟨2, .phase⟩, ⟨3, .phase⟩, ⟨4, .phase⟩, ⟨5, .phase⟩, ⟨6, .phase⟩, ⟨7, .phase⟩, ⟨8, .phase⟩, ⟨9, .phase⟩, ⟨10, .phase⟩, ⟨11, .phase⟩, ⟨12, .phase⟩, ⟨13, .phase⟩, ⟨14, .phase⟩], none⟩) rfl (fun K hK => ?_) AllReadyH.nil)
        go_simp
        (have ss9 := T6.out.sprS HCE bE (Kg := Kg) (by omega) (by omega) (.slice A9 f.code.length q9))
        (try dsimp only)
        refine hK.out _ _ ?_ (fun hHeld6 => ?_)
        · first | trivial | ((try dsimp only); first | assumption | trivial | go_keep)
        clear hK K hHeld5
        (try simp only [Act.put, List.setIfInBounds_toArray, List.set_cons_succ, List.set_cons_zero])
        refine wpAnyH_done (by kernel_rfl) ?_ _
        have TE := T6.out.ds.step bE
        have HD := Lib.hid (TE.set hKg2 3 (.slice A9 f.code.length q9))
        have HVG := Lib.hid (vg.set 3 (.slice A9 f.code.length q9))
        have hlen9 : ((L1 ++ [((y', (D', e1), (E', e2), T', e3) : MV)]) ++ L2).length = f.code.length := by simp only [List.length_append, List.length_cons, List.length_nil]; omega
        have HMF := Lib.hid (set_code (v := ((y', (D', e1), (E', e2), T', e3) : MV)) (y := y') (f := f) (k := k) rfl hm1 hm2 ((RdZ.on T6.out.ds.fs.at_.ps bE).mono (hSK _)) ((RdZ.on T6.out.ds.fs.at_.rs bE).mono (hSK _)) hlen9 owE hKg (fun z hz => (HV1.out z hz).on bE) (HVY.out.on bE) (fun z hz => (HV2.out z hz).on bE) (.slice A9 f.code.length q9))
        (try dsimp only)
        repeat (first | go_values | go_skip | go_guarded | go_step | go_upon)
        go_meet
        exact ⟨A9, q9, HD, HVG, HMF⟩
    · skip
      go_simp
      (have b1 := b0.alloc b0.size (.cells #[.int .i64 y'.kind, .int .i64 y'.op, .int .i64 y'.a, .int .i64 y'.b, .int .u64 (y'.n : Int), .slice D' y'.d.length e1, .slice E' y'.s.length e2, .slice T' y'.tos.length e3, .int .i64 y'.trap] 61); have vo : Var (W0.alloc (.cells #[.int .i64 y'.kind, .int .i64 y'.op, .int .i64 y'.a, .int .i64 y'.b, .int .u64 (y'.n : Int), .slice D' y'.d.length e1, .slice E' y'.s.length e2, .slice T' y'.tos.length e3, .int .i64 y'.trap] 61)) (W0.heap.size) #[.int .i64 y'.kind, .int .i64 y'.op, .int .i64 y'.a, .int .i64 y'.b, .int .u64 (y'.n : Int), .slice D' y'.d.length e1, .slice E' y'.s.length e2, .slice T' y'.tos.length e3, .int .i64 y'.trap] 61 := (by have hh := Var.new (W0) #[.int .i64 y'.kind, .int .i64 y'.op, .int .i64 y'.a, .int .i64 y'.b, .int .u64 (y'.n : Int), .slice D' y'.d.length e1, .slice E' y'.s.length e2, .slice T' y'.tos.length e3, .int .i64 y'.trap] 61; simpa using hh); have ss1 := T6.out.spr HCE b1)
      (try dsimp only)
      refine hK.out _ _ ?_ (fun hHeld1 => ?_)
      · first | trivial | ((try dsimp only); first | assumption | trivial | go_keep)
      clear hK K hHeld0
      (try simp only [Act.put, List.setIfInBounds_toArray, List.set_cons_succ, List.set_cons_zero])
      refine wpAnyH_ready (rs := [0]) (by kernel_rfl) (by simp) ?_
      refine (AllReadyH.cons (o := ⟨some 129, .buildSlice 37 0 #[], 37, "law.go:159", #[], none⟩) rfl (fun K hK => ?_) AllReadyH.nil)
      go_simp
      (have b2 := b1.alloc b1.size (.cells #[] 61); have ow : ((W0.alloc (.cells #[.int .i64 y'.kind, .int .i64 y'.op, .int .i64 y'.a, .int .i64 y'.b, .int .u64 (y'.n : Int), .slice D' y'.d.length e1, .slice E' y'.s.length e2, .slice T' y'.tos.length e3, .int .i64 y'.trap] 61)).alloc (.cells #[] 61)).ownsRow W0.heap.size 61 9 (.slice (some ⟨W0.heap.size + 1, 0, none⟩) 0 0) 0 (([] : List MV).flatMap encM) := (by have hh := lit_own2 (base := W0.heap.size) (enc := encM) (k := 9) (n := 0) (e := 61) (l := []) (cs := #[]) ((W0.alloc (.cells #[.int .i64 y'.kind, .int .i64 y'.op, .int .i64 y'.a, .int .i64 y'.b, .int .u64 (y'.n : Int), .slice D' y'.d.length e1, .slice E' y'.s.length e2, .slice T' y'.tos.length e3, .int .i64 y'.trap] 61))) b1.size rfl encM_len rfl (by omega); simpa using hh); have vo := vo.alloc (.cells #[] 61); have ss2 := T6.out.spr HCE b2)
      (try dsimp only)
      refine hK.out _ _ ?_ (fun hHeld2 => ?_)
      · first | trivial | ((try dsimp only); first | assumption | trivial | go_keep)
      clear hK K hHeld1
      (try simp only [Act.put, List.setIfInBounds_toArray, List.set_cons_succ, List.set_cons_zero])
      refine wpAnyH_ready (rs := [5]) (by kernel_rfl) (by simp) ?_
      refine (AllReadyH.cons (o := ⟨some 134, .call { callee := .builtin .append, args := #[.tmp 129, .tmp 133], argTypes := #[37, 37] }, 37, "law.go:159", #[⟨0, .data⟩, ⟨4, .data⟩], none⟩) rfl (fun K hK => ?_) AllReadyH.nil)
      (refine step_appN Tryz.underlying37 hi0 hz0 hz1 hz2 hzs (by omega) encM_len encM_one _ rfl (.tmp 129) (.tmp 133) rfl W0.heap.size (.slice (some ⟨W0.heap.size + 1, 0, none⟩) 0 0) 0 [] (by rfl) ow L1 k c3 (some ⟨g, o, none⟩) hk1 (by rfl) ((HR1.out.below b2).more b2.size) k (by omega) L1 rfl (by omega) hbb b2.size ?_; intro A5 q5 w5 ow5 hg5 hob5; have b3 := b2.grown hg5 b2.size (fun j hj => (ow.lt j hj).1); have ow := ow5; have vo : Var w5 (W0.heap.size) #[.int .i64 y'.kind, .int .i64 y'.op, .int .i64 y'.a, .int .i64 y'.b, .int .u64 (y'.n : Int), .slice D' y'.d.length e1, .slice E' y'.s.length e2, .slice T' y'.tos.length e3, .int .i64 y'.trap] 61 := var_stay vo (k := W0.heap.size + 1) hg5 (by omega); have ss3 := T6.out.spr HCE b3)
      (try dsimp only)
      refine hK.out _ _ ?_ (fun hHeld3 => ?_)
      · first | trivial | ((try dsimp only); first | assumption | trivial | go_keep)
      clear hK K hHeld2
      (try simp only [Act.put, List.setIfInBounds_toArray, List.set_cons_succ, List.set_cons_zero])
      refine wpAnyH_ready (rs := [8]) (by kernel_rfl) (by simp) ?_
      refine (AllReadyH.cons (o := ⟨some 137, .call { callee := .builtin .append, args := #[.tmp 134, .tmp 136], argTypes := #[37, 37] }, 37, "law.go:159", #[⟨5, .data⟩, ⟨7, .data⟩, ⟨5, .chain⟩], none⟩) rfl (fun K hK => ?_) AllReadyH.nil)
      (refine step_appN Tryz.underlying37 hi0 hz0 hz1 hz2 hzs (by omega) encM_len encM_one _ rfl (.tmp 134) (.tmp 136) rfl W0.heap.size (.slice A5 k q5) k L1 (by rfl) ow [((y', (D', e1), (E', e2), T', e3) : MV)] 1 1 (some ⟨W0.heap.size, 0, none⟩) rfl (by rfl) (block_reads (cs := #[.int .i64 y'.kind, .int .i64 y'.op, .int .i64 y'.a, .int .i64 y'.b, .int .u64 (y'.n : Int), .slice D' y'.d.length e1, .slice E' y'.s.length e2, .slice T' y'.tos.length e3, .int .i64 y'.trap]) (m := 1) (k := 9) rfl vo) (k + 1) rfl (L1 ++ [((y', (D', e1), (E', e2), T', e3) : MV)]) rfl (by omega) hbb b3.size ?_; intro A8 q8 w8 ow8 hg8 hob8; have b4 := b3.grown hg8 b3.size (fun j hj => (ow.lt j hj).1); have ss4 := T6.out.spr HCE b4)
      (try dsimp only)
      refine hK.out _ _ ?_ (fun hHeld4 => ?_)
      · first | trivial | ((try dsimp only); first | assumption | trivial | go_keep)
      clear hK K hHeld3
      (try simp only [Act.put, List.setIfInBounds_toArray, List.set_cons_succ, List.set_cons_zero])
      refine wpAnyH_ready (rs := [14]) (by kernel_rfl) (by simp) ?_
      refine (AllReadyH.cons (o := ⟨some 143, .call { callee := .builtin .append, args := #[.tmp 137, .tmp 142], argTypes := #[37, 37] }, 37, "law.go:159", #[⟨8, .data⟩, ⟨13, .data⟩, ⟨8, .chain⟩], none⟩) rfl (fun K hK => ?_) AllReadyH.nil)
      (refine step_appN Tryz.underlying37 hi0 hz0 hz1 hz2 hzs (by omega) encM_len encM_one _ rfl (.tmp 137) (.tmp 142) rfl W0.heap.size (.slice A8 (k + 1) q8) (k + 1) (L1 ++ [((y', (D', e1), (E', e2), T', e3) : MV)]) (by rfl) ow8 L2 (f.code.length - (k + 1)) (c3 - (k + 1)) (if c3 = k + 1 then some ⟨g, o, none⟩ else some ⟨g, o + (k + 1) * 9, none⟩) hk2 (by rfl) ((HR2.out.below b4).more b4.size) f.code.length (by omega) ((L1 ++ [((y', (D', e1), (E', e2), T', e3) : MV)]) ++ L2) rfl (by omega) hbb b4.size ?_; intro A9 q9 wE owE hgE hobE; have bE := b4.grown hgE b4.size (fun j hj => (ow8.lt j hj).1); have vg := VG.out.below bE hKg; have e7 := vg.cells 3; have z7 := vg.froz 3; have l7 := vg.lt; have ss5 := T6.out.spr HCE bE)
      (try dsimp only)
      refine hK.out _ _ ?_ (fun hHeld5 => ?_)
      · first | trivial | ((try dsimp only); first | assumption | trivial | go_keep)
      clear hK K hHeld4
      (try simp only [Act.put, List.setIfInBounds_toArray, List.set_cons_succ, List.set_cons_zero])
      refine tk (i := 15) (oi := ⟨some 144, .fieldAddr 39 (.tmp 14) 2, 0, "law.go:159", #[⟨0, .phase⟩, ⟨1, .phase⟩, ⟨2, .phase⟩, ⟨3, .phase⟩, ⟨4, .phase⟩, ⟨5, .phase⟩, ⟨6, .phase⟩, ⟨7, .phase⟩, ⟨8, .phase⟩, ⟨9, .phase⟩, ⟨10, .phase⟩, ⟨11, .phase⟩, ⟨12, .phase⟩, ⟨13, .phase⟩, ⟨14, .phase⟩], none⟩) rfl ?_; (try simp only [Act.put, List.setIfInBounds_toArray, List.set_cons_succ, List.set_cons_zero])
      refine wpAnyH_ready (rs := [16]) (by kernel_rfl) (by simp) ?_
      refine (AllReadyH.cons (o := ⟨none, .store 37 (.tmp 144) (.tmp 143), 0, "law.go:159", #[⟨15, .data⟩, ⟨14, .data⟩, ⟨14, .chain⟩, ⟨0, .phase⟩, ⟨1, .phase⟩, ⟨2, .phase⟩, ⟨3, .phase⟩, ⟨4, .phase⟩, ⟨5, .phase⟩, ⟨6, .phase⟩, ⟨7, .phase⟩, ⟨8, .phase⟩, ⟨9, .phase⟩, ⟨10, .phase⟩, ⟨11, .phase⟩, ⟨12, .phase⟩, ⟨13, .phase⟩, ⟨14, .phase⟩], none⟩) rfl (fun K hK => ?_) AllReadyH.nil)
      go_simp
      (have ss9 := T6.out.sprS HCE bE (Kg := Kg) (by omega) (by omega) (.slice A9 f.code.length q9))
      (try dsimp only)
      refine hK.out _ _ ?_ (fun hHeld6 => ?_)
      · first | trivial | ((try dsimp only); first | assumption | trivial | go_keep)
      clear hK K hHeld5
      (try simp only [Act.put, List.setIfInBounds_toArray, List.set_cons_succ, List.set_cons_zero])
      refine wpAnyH_done (by kernel_rfl) ?_ _
      have TE := T6.out.ds.step bE
      have HD := Lib.hid (TE.set hKg2 3 (.slice A9 f.code.length q9))
      have HVG := Lib.hid (vg.set 3 (.slice A9 f.code.length q9))
      have hlen9 : ((L1 ++ [((y', (D', e1), (E', e2), T', e3) : MV)]) ++ L2).length = f.code.length := by simp only [List.length_append, List.length_cons, List.length_nil]; omega
      have HMF := Lib.hid (set_code (v := ((y', (D', e1), (E', e2), T', e3) : MV)) (y := y') (f := f) (k := k) rfl hm1 hm2 ((RdZ.on T6.out.ds.fs.at_.ps bE).mono (hSK _)) ((RdZ.on T6.out.ds.fs.at_.rs bE).mono (hSK _)) hlen9 owE hKg (fun z hz => (HV1.out z hz).on bE) (HVY.out.on bE) (fun z hz => (HV2.out z hz).on bE) (.slice A9 f.code.length q9))
      (try dsimp only)
      repeat (first | go_values | go_skip | go_guarded | go_step | go_upon)
      go_meet
      exact ⟨A9, q9, HD, HVG, HMF⟩
  case rest =>
  clear T6 VG HRY hw1 hw2 hc0 hkc hkc2
  obtain ⟨A9, q9, I7, VG, HMF⟩ := hcut
  have hgl : (f.code.take k ++ (y' :: f.code.drop (k + 1))).length = f.code.length := by simp only [List.length_append, List.length_take, List.length_cons, List.length_drop]; omega
  have HC2 := Lib.hid (HCT.out _ hgl (fun z hz => by
    rcases List.mem_append.1 hz with hz | hz
    · exact ok_lists HOK.out z (List.mem_of_mem_take hz)
    · rcases List.mem_cons.1 hz with rfl | hz
      · have := HBN.out; exact ⟨by omega, by omega, by omega⟩
      · exact ok_lists HOK.out z (List.mem_of_mem_drop hz)) (fun g => g ≠ Kg) A9 q9)
  have htn : Mc.check (Mc.thOf m) ⟨f.ps, f.rs, f.slots, f.code.take k ++ (y' :: f.code.drop (k + 1))⟩ 8 = ((k : Int), 30) := Mc.turned HGD.out hkl HBD.out
  rw [htn, hgl] at HC2
  dsimp only at HC2
  clear htn hgl HCT HOK HBN HBD HGD
  obtain ⟨⟨v0, v1, v2, v3⟩, -⟩ := cells4' (show Var wc Kg #[.slice P f.ps.length c1, .slice R f.rs.length c2, .int .i64 f.slots, .slice A9 f.code.length q9] 39 from VG.out)
  obtain ⟨y0, y1, y2, y3⟩ := mfV_cells I7.out.fs.var
  obtain ⟨⟨z0, z1, z2, z3, z4, z5⟩, z6, z7, z8, z9, z10, z11⟩ := mdA_cells I7.out.md
  go_wp2_with (first
    | (go_at_call 12; (with_reducible refine (HC2.out _ I7.out.fs.glob I7.out.ml HMF.out).mono ?_); rintro e w9 ⟨rfl, hb⟩; have I8 := Lib.hid (I7.out.step hb); clear hb)
    | (go_at_call 11; (with_reducible refine (HA.out _ I8.out.fs.glob).mono ?_); rintro e w10 ⟨rfl, hb⟩; have I9 := Lib.hid (I8.out.step hb); clear hb))
  go_ret
  exact ⟨rfl, I9.out.fs.bel⟩

/-- The same, the first number an integer. -/
theorem turnedN (m : Md) (x : MX) (ho : x.One) (hpl : ∀ f ∈ m.types, f.1.length ≤ 17592186044416 ∧ f.2.length ≤ 17592186044416) (f : Mf) (hq : ∀ x ∈ f.code, QMi x) (hsl : InR f.slots) (c3 : Nat) (hc3 : f.code.length ≤ c3) (wh at_ : Int) (hwh : 0 ≤ wh ∧ wh ≤ 255) (hat : 0 ≤ at_ ∧ at_ ≤ 255)
    (P : Option Addr) (c1 : Nat) (R : Option Addr) (c2 : Nat) (C : Option Addr) (w : World) (G : GlobM w) (hml : MdL (fun g => g < w.heap.size) w m x) (h : MfAt (fun g => g < w.heap.size) w f P R C) (hcap : ∀ i, i < f.code.length → ∀ g o, C = some ⟨g, o, none⟩ → CapAt w g (o + i * 9)) :
    Calls Tryz.prog 8 #[.agg (mdA m x), .agg (mfV f P c1 R c2 C c3), .int .u8 wh, .int .u8 at_] w fun e w' => e = .returned (.bool true) ∧ Below w.heap.size w w' := by
  obtain ⟨n, rfl⟩ : ∃ n : Nat, wh = (n : Int) := ⟨wh.toNat, by omega⟩
  exact turned_walk m x ho hpl f hq hsl c3 hc3 n at_ (by omega) hat P c1 R c2 C w G hml h hcap
end Go.Proofs.YtadnfekogmjieaaGreatDoor
