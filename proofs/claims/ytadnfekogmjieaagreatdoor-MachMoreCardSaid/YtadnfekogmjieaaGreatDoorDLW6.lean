/-
  Layer 51, the laws: MachMore. (Printed by gen_lw6.py.)
-/
import Derived.Test.YtadnfekogmjieaaGreatDoorDLWM
import Derived.Deep.Cut
import Derived.Deep.CutRange
set_option linter.unusedVariables false
set_option linter.unusedSimpArgs false
namespace Go.Proofs.YtadnfekogmjieaaGreatDoor
open Go.RowKit
open Mc (Pl Mi Mf Th Wt Im Md)
set_option maxHeartbeats 16000000 in
set_option maxRecDepth 100000 in
/-- MachMore. -/
theorem more_walk (m : Md) (x : MX) (ho : x.One) (hpl : ∀ f ∈ m.types, f.1.length ≤ 17592186044416 ∧ f.2.length ≤ 17592186044416) (f : Mf) (hq : ∀ x ∈ f.code, QMi x) (hsl : InR f.slots) (c3 : Nat) (hc3 : f.code.length ≤ c3) (r mo cu : Int) (hr : 0 ≤ r ∧ r ≤ 255) (hmo : 0 ≤ mo ∧ mo ≤ 255) (hcu : 0 ≤ cu ∧ cu ≤ 255)
    (P : Option Addr) (c1 : Nat) (R : Option Addr) (c2 : Nat) (C : Option Addr) (w : World) (G : GlobM w) (hml : MdL (fun g => g < w.heap.size) w m x) (h : MfAt (fun g => g < w.heap.size) w f P R C) :
    Calls Tryz.prog 7 #[.agg (mdA m x), .agg (mfV f P c1 R c2 C c3), .int .u8 r, .int .u8 mo, .int .u8 cu] w fun e w' => e = .returned (.bool true) ∧ Below w.heap.size w w' := by
  have I0 := Lib.hid (DSt.new (c1 := c1) (c2 := c2) (c3 := c3) hml h G)
  have HM := Lib.hid (fun W (h : MdL (fun g => g < w.heap.size) W m x) (hs : w.heap.size ≤ W.heap.size) => mdlight_any m x ho (fun g => g < w.heap.size) W (fun g hg => Nat.lt_of_lt_of_le hg hs) h)
  have HL := Lib.hid (fun W (h : MfAt (fun g => g < w.heap.size) W f P R C) => light_any f _ P c1 R c2 C c3 W h)
  have HA := Lib.hid (fun W (G : GlobM W) => alive_any W G)
  unfold mfV at HL
  unfold mdA at HM
  rcases hl : Mc.lightB f with _ | _
  · rw [hl] at HL
    clear hq hsl h G hl hml hpl
    go_enter Tryz.func7, Tryz.ntmps7
    go_upto_region 1 with fail
    refine at_code (F := fun W => Hid (DSt w W m x (fun g => g < w.heap.size) f (fun g => g < w.heap.size) P c1 R c2 C c3)) I0 ?_
    clear I0
    intro W I
    obtain ⟨y0, y1, y2, y3⟩ := mfV_cells I.out.fs.var
    obtain ⟨⟨z0, z1, z2, z3, z4, z5⟩, z6, z7, z8, z9, z10, z11⟩ := mdA_cells I.out.md
    go_wp2_with (first | (go_at_call 9; (with_reducible refine (HM.out _ I.out.ml I.out.fs.bel.size).mono ?_); rintro e w1 ⟨⟨b, rfl, hlite⟩, hb⟩; have I1 := Lib.hid (I.out.step hb); have HLT := Lib.hid hlite; clear hb hlite I y0 y1 y2 y3 z0 z1 z2 z3 z4 z5 z6 z7 z8 z9 z10 z11; obtain ⟨y0, y1, y2, y3⟩ := mfV_cells I1.out.fs.var; obtain ⟨⟨z0, z1, z2, z3, z4, z5⟩, z6, z7, z8, z9, z10, z11⟩ := mdA_cells I1.out.md; rcases b with _ | _) | (go_at_call 10; (with_reducible refine (HL.out _ I1.out.fs.at_).mono ?_); rintro e w2 ⟨rfl, hb⟩; have I2 := Lib.hid (I1.out.step hb); clear hb I1) | (go_at_call 11; (with_reducible refine (HA.out _ I2.out.fs.glob).mono ?_); rintro e w9 ⟨rfl, hb⟩; have I3 := Lib.hid (I2.out.step hb); clear hb I2) | (go_at_call 11; (with_reducible refine (HA.out _ I1.out.fs.glob).mono ?_); rintro e w9 ⟨rfl, hb⟩; have I3 := Lib.hid (I1.out.step hb); clear hb I1))
    all_goals go_ret
    all_goals exact ⟨rfl, I3.out.fs.bel⟩
  rw [hl] at HL
  have hlt := Mc.lightB_iff.1 hl
  have hok := light_ok hlt hq hsl
  have HP := Lib.hid (fun W (G : GlobM W) (h : MfAt (fun g => g < w.heap.size) W f P R C) => print_any f hok _ P c1 R c2 C c3 W G h)
  have HCK := Lib.hid (fun (few : m.Few) (regs : Int) W (G : GlobM W) (hmd : MdL (fun g => g < w.heap.size) W m x) (h : MfAt (fun g => g < w.heap.size) W f P R C) => mcheck_any m few x ho f P c1 R c2 C c3 regs (by have := hlt.ps; omega) (by have := hlt.rs; omega) (by have := hlt.code; omega) (ok_lists hok) _ _ W G hmd.rd h)
  have HCG := Lib.hid (fun (few : m.Few) (k : Nat) (hk : k ≤ f.code.length) (regs : Int) W (G : GlobM W) (hmd : MdL (fun g => g < w.heap.size) W m x) (h : MfAt (fun g => g < w.heap.size) W f P R C) => cut_check m few x ho f P c1 R c2 C c3 regs (by have := hlt.ps; omega) (by have := hlt.rs; omega) (by have := hlt.code; omega) (ok_lists hok) _ _ k hk W G hmd.rd h)
  have HTL := Lib.hid (fun y (hy : y ∈ f.code) => (ok_lists hok y hy).2.2)
  have HFEW := Lib.hid (fun (hl : m.Lite) => lite_few hl hpl)
  have hcl : f.code.length ≤ 2000 := by have := hlt.code; omega
  unfold mfV at HP HCK
  unfold mdA at HCK HCG
  clear hlt hok hl hq hsl h G hml hpl
  go_enter Tryz.func7, Tryz.ntmps7
  go_upto_region 1 with fail
  refine at_code (F := fun W => Hid (DSt w W m x (fun g => g < w.heap.size) f (fun g => g < w.heap.size) P c1 R c2 C c3)) I0 ?_
  clear I0
  intro W I
  obtain ⟨y0, y1, y2, y3⟩ := mfV_cells I.out.fs.var
  obtain ⟨⟨z0, z1, z2, z3, z4, z5⟩, z6, z7, z8, z9, z10, z11⟩ := mdA_cells I.out.md
  go_upto_if 32 with (first | (go_at_call 9; (with_reducible refine (HM.out _ I.out.ml I.out.fs.bel.size).mono ?_); rintro e w1 ⟨⟨b, rfl, hlite⟩, hb⟩; have I1 := Lib.hid (I.out.step hb); have HLT := Lib.hid hlite; clear hb hlite I y0 y1 y2 y3 z0 z1 z2 z3 z4 z5 z6 z7 z8 z9 z10 z11; obtain ⟨y0, y1, y2, y3⟩ := mfV_cells I1.out.fs.var; obtain ⟨⟨z0, z1, z2, z3, z4, z5⟩, z6, z7, z8, z9, z10, z11⟩ := mdA_cells I1.out.md; rcases b with _ | _) | (go_at_call 10; (with_reducible refine (HL.out _ I1.out.fs.at_).mono ?_); rintro e w2 ⟨rfl, hb⟩; have I2 := Lib.hid (I1.out.step hb); clear hb I1))
  · go_wp2_with (go_at_call 11; (with_reducible refine (HA.out _ I1.out.fs.glob).mono ?_); rintro e w9 ⟨rfl, hb⟩; have I3 := Lib.hid (I1.out.step hb); clear hb I1)
    go_ret
    exact ⟨rfl, I3.out.fs.bel⟩
  have few := HFEW.out (HLT.out (by trivial))
  have HSM := Lib.hid (few_sm few)
  replace HCK := Lib.hid (HCK.out few)
  replace HCG := Lib.hid (HCG.out few)
  clear few HFEW HLT HM HL
  obtain ⟨y0, y1, y2, y3⟩ := mfV_cells I2.out.fs.var
  obtain ⟨⟨z0, z1, z2, z3, z4, z5⟩, z6, z7, z8, z9, z10, z11⟩ := mdA_cells I2.out.md
  obtain ⟨n, hn⟩ : ∃ n : Int, Int.tmod r 17 = n := ⟨_, rfl⟩
  have hn16 : 0 ≤ n ∧ n ≤ 16 := by rw [Int.tmod_eq_emod_of_nonneg hr.1] at hn; omega
  go_upto_region 4 with fail
  clear hn
  have hrg : Mc.within n 16 = true := by unfold Mc.within; simp; omega
  obtain ⟨Z, hZ⟩ : ∃ Z, Mc.check (Mc.thOf m) f n = Z := ⟨_, rfl⟩
  have HC1 := Lib.hid (HCK.out n)
  rw [hZ] at HC1
  by_cases hz : Z.2 = 0
  case neg =>
    obtain ⟨e30, k, ek, hk⟩ := Mc.check_bad hrg (by rw [hZ]; exact hz)
    rw [hZ] at e30 ek
    rw [e30, ek] at HC1
    have k0 : (0 : Int) ≤ (k : Int) := by omega
    clear HCK HCG HP HSM hZ hz e30 ek hrg
    by_cases hk1 : (k : Int) < (f.code.length : Int)
    · go_wp2_with (first | (go_at_call 12; (with_reducible refine (HC1.out _ I2.out.fs.glob I2.out.ml I2.out.fs.at_).mono ?_); rintro e w9 ⟨rfl, hb⟩; have I3 := Lib.hid (I2.out.step hb); clear hb I2 y0 y1 y2 y3 z0 z1 z2 z3 z4 z5 z6 z7 z8 z9 z10 z11; obtain ⟨y0, y1, y2, y3⟩ := mfV_cells I3.out.fs.var; obtain ⟨⟨z0, z1, z2, z3, z4, z5⟩, z6, z7, z8, z9, z10, z11⟩ := mdA_cells I3.out.md) | (go_at_call 11; (with_reducible refine (HA.out _ I3.out.fs.glob).mono ?_); rintro e w9 ⟨rfl, hb⟩; have I9 := Lib.hid (I3.out.step hb); clear hb I3))
      go_ret
      exact ⟨rfl, I9.out.fs.bel⟩
    · obtain rfl : k = 0 := by omega
      rw [show ((0 : Nat) : Int) = 0 from rfl] at HC1
      have hl0 : f.code.length = 0 := by omega
      have HL0 := Lib.hid hl0
      clear k0 hk1 hl0 hk
      go_wp2_with (first | (go_at_call 12; (with_reducible refine (HC1.out _ I2.out.fs.glob I2.out.ml I2.out.fs.at_).mono ?_); rintro e w9 ⟨rfl, hb⟩; have I3 := Lib.hid (I2.out.step hb); clear hb I2 y0 y1 y2 y3 z0 z1 z2 z3 z4 z5 z6 z7 z8 z9 z10 z11; obtain ⟨y0, y1, y2, y3⟩ := mfV_cells I3.out.fs.var; obtain ⟨⟨z0, z1, z2, z3, z4, z5⟩, z6, z7, z8, z9, z10, z11⟩ := mdA_cells I3.out.md; rw [HL0.out] at y3) | (go_at_call 11; (with_reducible refine (HA.out _ I3.out.fs.glob).mono ?_); rintro e w9 ⟨rfl, hb⟩; have I9 := Lib.hid (I3.out.step hb); clear hb I3))
      go_ret
      exact ⟨rfl, I9.out.fs.bel⟩
  have good := Mc.check_ok.1 (by rw [hZ]; exact hz)
  rw [← hZ, Mc.check_good good] at HC1
  clear hZ hz
  obtain ⟨q, hqm⟩ : ∃ q : Int, min 16 (n + mo) = q := ⟨_, rfl⟩
  have good2 := Mc.good_more good (r' := q) (by omega) (by omega)
  have HC2 := Lib.hid (HCK.out q)
  rw [Mc.check_good good2] at HC2
  have HC17 := Lib.hid (HCK.out 17)
  rw [Mc.check_over _ _ (by decide)] at HC17
  have hp0 := Mc.good_print HSM.out good (by omega)
  obtain ⟨T, hT⟩ : ∃ T, Mc.print f = T := ⟨_, rfl⟩
  rw [hT] at HP hp0
  have q1 : (T == ([] : List UInt8)) = false := beq_eq_false_iff_ne.2 hp0
  have q2 : ((ByteArray.mk T.toArray) == (ByteArray.mk #[])) = false := beq_no (b := []) hp0
  have q3 : List.isEmpty T = false := by simpa using hp0
  have q5 : (!List.isEmpty T) = true := by rw [q3]; rfl
  have HGD := Lib.hid good
  clear good good2 hT hp0 HSM HCK hrg
  dsimp only at HC1 HC2 HC17
  go_upto_region 10 with (first | (go_at_call 12; (with_reducible refine (HC1.out _ I2.out.fs.glob I2.out.ml I2.out.fs.at_).mono ?_); rintro e w9 ⟨rfl, hb⟩; have I3 := Lib.hid (I2.out.step hb); clear hb I2 y0 y1 y2 y3 z0 z1 z2 z3 z4 z5 z6 z7 z8 z9 z10 z11; obtain ⟨y0, y1, y2, y3⟩ := mfV_cells I3.out.fs.var; obtain ⟨⟨z0, z1, z2, z3, z4, z5⟩, z6, z7, z8, z9, z10, z11⟩ := mdA_cells I3.out.md) | (go_at_call 12; (with_reducible refine (HC2.out _ I3.out.fs.glob I3.out.ml I3.out.fs.at_).mono ?_); rintro e w9 ⟨rfl, hb⟩; have I4 := Lib.hid (I3.out.step hb); clear hb I3 y0 y1 y2 y3 z0 z1 z2 z3 z4 z5 z6 z7 z8 z9 z10 z11; obtain ⟨y0, y1, y2, y3⟩ := mfV_cells I4.out.fs.var; obtain ⟨⟨z0, z1, z2, z3, z4, z5⟩, z6, z7, z8, z9, z10, z11⟩ := mdA_cells I4.out.md) | (go_at_call 14; (with_reducible refine (HP.out _ I4.out.fs.glob I4.out.fs.at_).mono ?_); rintro e w9 ⟨rfl, hb⟩; have I5 := Lib.hid (I4.out.step hb); clear hb I4 y0 y1 y2 y3 z0 z1 z2 z3 z4 z5 z6 z7 z8 z9 z10 z11; obtain ⟨y0, y1, y2, y3⟩ := mfV_cells I5.out.fs.var; obtain ⟨⟨z0, z1, z2, z3, z4, z5⟩, z6, z7, z8, z9, z10, z11⟩ := mdA_cells I5.out.md))
  clear HC1 HC2 HP q1 q2 q3 q5
  obtain ⟨k, HKM, hk1⟩ := tmod_nat hcu.1 (n := f.code.length)
  have hkl : k ≤ f.code.length := hk1
  replace hk1 : (k : Int) ≤ (f.code.length : Int) := by omega
  have hk0 : (0 : Int) ≤ (k : Int) := by omega
  have hc0 : ¬ c3 = 0 := by
    have := List.length_pos_iff.2 (Mc.mfOk_iff.1 HGD.out.ok).2
    omega
  have hkc : (k : Int) ≤ (c3 : Int) := by omega
  have hkc2 : k ≤ c3 := by omega
  have hw1 := wr64 (z := (f.code.length : Int) + 1) (by omega) (by omega)
  have hw2 := wri64 (z := (f.code.length : Int) + 1) (by omega) (by omega)
  have hwk2 := wr64 (z := (k : Int)) (by omega) (by omega)
  have hne : ¬ ((f.code.length : Int) + 1 = 0) := by omega
  go_upto_region 11 with fail
  refine at_code (F := fun W => Hid (DSt w W m x (fun g => g < w.heap.size) f (fun g => g < w.heap.size) P c1 R c2 C c3) ∧ Hid (Var W w9.heap.size #[.slice P f.ps.length c1, .slice R f.rs.length c2, .int .i64 f.slots, .slice C f.code.length c3] 39) ∧ Hid (w.heap.size + 2 ≤ w9.heap.size)) ⟨Lib.hid (I5.out.step ((Below.refl _ _).alloc (Nat.le_refl _) _)), Lib.hid (Var.new _ _ _), Lib.hid (by have := I5.out.fs.var.lt; omega)⟩ ?_
  clear I5 y0 y1 y2 y3 z0 z1 z2 z3 z4 z5 z6 z7 z8 z9 z10 z11
  obtain ⟨Kg, hKg⟩ : ∃ K, w9.heap.size = K := ⟨_, rfl⟩
  simp only [hKg]
  clear hKg
  rintro W6 ⟨I6, V6, HKG⟩
  obtain ⟨y0, y1, y2, y3⟩ := mfV_cells I6.out.fs.var
  obtain ⟨⟨z0, z1, z2, z3, z4, z5⟩, z6, z7, z8, z9, z10, z11⟩ := mdA_cells I6.out.md
  obtain ⟨⟨v0, v1, v2, v3⟩, f0, f1, f2, f3⟩ := cells4' V6.out
  have hk := HKM.out
  go_upto_region 12 with fail
  clear hk
  go_upto_region 13 with fail
  refine at_code (F := fun W => Hid (DSt w W m x (fun g => g < w.heap.size) f (fun g => g < w.heap.size) P c1 R c2 C c3) ∧ Hid (Var W Kg #[.slice P f.ps.length c1, .slice R f.rs.length c2, .int .i64 f.slots, .slice C k c3] 39)) ⟨Lib.hid (I6.out.set HKG.out 3 _), Lib.hid (Var.set V6.out 3 _)⟩ ?_
  clear I6 V6 y0 y1 y2 y3 z0 z1 z2 z3 z4 z5 z6 z7 z8 z9 z10 z11 v0 v1 v2 v3 f0 f1 f2 f3 hc0 hkc hkc2 hw1 hw2 hwk2 hne
  rintro W7 ⟨I7, V7⟩
  have HF0 := Lib.hid (pfx_zero (f := f) (k := k))
  go_cut [18] from 19 (fun s18 wx => ∃ b : Bool, s18 = .bool b ∧ Hid (b = true ↔ pfxK f k 0) ∧ Hid (DSt w wx m x (fun g => g < w.heap.size) f (fun g => g < w.heap.size) P c1 R c2 C c3) ∧ Hid (Var wx Kg #[.slice P f.ps.length c1, .slice R f.rs.length c2, .int .i64 f.slots, .slice C k c3] 39))
  case first =>
    obtain ⟨y0, y1, y2, y3⟩ := mfV_cells I7.out.fs.var
    obtain ⟨⟨z0, z1, z2, z3, z4, z5⟩, z6, z7, z8, z9, z10, z11⟩ := mdA_cells I7.out.md
    by_cases hkz : k = 0
    · have p0 : ¬ (0 : Int) < (k : Int) := by omega
      have HB := Lib.hid (show (false = true ↔ pfxK f k 0) from ⟨fun h => (by cases h), fun h => absurd h.1.1 (by omega)⟩)
      clear HF0
      subst hkz
      go_wp2_with fail
      go_meet
      exact ⟨false, rfl, HB, I7, V7⟩
    · have p0 : (0 : Int) < (k : Int) := by omega
      obtain ⟨j, hj⟩ : ∃ j, k = j + 1 := ⟨k - 1, by omega⟩
      have hw3 : wrap64 ((k : Int) - 1) = (j : Int) := by rw [wr64 (by omega) (by omega)]; omega
      have hw4 : IntKind.i64.wrap ((k : Int) - 1) = (j : Int) := by rw [wri64 (by omega) (by omega)]; omega
      have x0 : (0 : Int) ≤ (j : Int) := by omega
      have x1 : (j : Int) < (f.code.length : Int) := by omega
      have hjl : j < f.code.length := by omega
      have HB := Lib.hid (show ((!Mc.goesK f.code[j].kind) = true ↔ pfxK f k 0) from by
        rw [HF0.out, show k - 1 = j by omega, Mc.getD_at hjl]
        simp; omega)
      obtain ⟨g, o, e, -, -, D, d1, E, e1, T, t1, hat, -⟩ := I7.out.fs.at_.code.get hjl
      have f0 : W7.cell? ⟨g, o + j * 9, none⟩ = some (.int .i64 f.code[j].kind) := hat 0 _ rfl
      rw [e] at y3
      clear e hat HF0 hj hkz
      go_wp2_with (go_at_call 21; refine (goes_any _ _).mono ?_; rintro _ _ ⟨rfl, rfl⟩)
      go_meet
      exact ⟨_, rfl, HB, I7, V7⟩
  case rest =>
  obtain ⟨b0, rfl, HB0, I8, V8⟩ := hcut
  clear I7 V7 HF0
  obtain ⟨y0, y1, y2, y3⟩ := mfV_cells I8.out.fs.var
  obtain ⟨⟨z0, z1, z2, z3, z4, z5⟩, z6, z7, z8, z9, z10, z11⟩ := mdA_cells I8.out.md
  go_wp2_with fail
  go_loopw [18, 19, 20] (fun sv iv jv wr => ∃ (i : Nat) (b : Bool), sv = .bool b ∧ iv = .int .i64 (i : Int) ∧ i ≤ k ∧ Hid (b = true ↔ pfxK f k i) ∧ wr = wc) (fun _ iv _ _ => k - (intOf iv).toNat)
  case atStart => exact ⟨0, b0, rfl, rfl, by omega, HB0, rfl⟩
  case round =>
    obtain ⟨i, b, rfl, rfl, hi, HB, rfl⟩ := hrel
    clear HB0
    by_cases hia : i < k
    · have x0 : (i : Int) < (k : Int) := by omega
      have x1 : (0 : Int) ≤ (i : Int) := by omega
      have x2 : (i : Int) < (f.code.length : Int) := by omega
      have hil : i < f.code.length := by omega
      obtain ⟨g, o, e, -, -, D, d1, E, e1, T, t1, hat, hrd⟩ := I8.out.fs.at_.code.get hil
      have f7 : wr.cell? ⟨g, o + i * 9 + 7, none⟩ = some (.slice T f.code[i].tos.length t1) := hat 7 _ rfl
      rw [e] at y3
      have HT := Lib.hid hrd.1.t
      have H0 := Lib.hid (pfx2_zero (f := f) (k := k) (i := i) (t := f.code[i].tos))
      have HS := Lib.hid (fun (j : Nat) (hj : j < f.code[i].tos.length) => pfx2_succ (f := f) (k := k) (i := i) hj)
      have HE := Lib.hid (pfx2_all (k := k) hil)
      have htl := HTL.out _ (List.getElem_mem hil)
      generalize f.code[i].tos = ts at f7 HT H0 HS HE htl
      clear e hat hrd
      go_wp2_with fail
      go_loopw [18, 20] (fun sv jv wx => ∃ (j : Nat) (b : Bool), sv = .bool b ∧ jv = .int .i64 (j : Int) ∧ j ≤ ts.length ∧ Hid (b = true ↔ pfx2 f k i ts j) ∧ wx = wr) (fun _ jv _ => ts.length - (intOf jv).toNat)
      case atStart => exact ⟨0, b, rfl, rfl, by omega, Lib.hid (HB.out.trans H0.out.symm), rfl⟩
      case round =>
        obtain ⟨j, b, rfl, rfl, hj, HB2, rfl⟩ := hrel
        by_cases hja : j < ts.length
        · have z0_ : (j : Int) < (ts.length : Int) := by omega
          have z1_ : (0 : Int) ≤ (j : Int) := by omega
          obtain ⟨g2, o2, rfl, -, -, hc⟩ := HT.out.get hja
          rw [Nat.mul_one] at hc
          replace hc : wr.cell? ⟨g2, o2 + j, none⟩ = some (.int .i64 ts[j]) := hc
          have hs := HS.out j hja
          rcases b with _ | _
          · have HB3 := Lib.hid (show (false = true ↔ pfx2 f k i ts (j + 1)) from ⟨fun h => (by cases h), fun h => HB2.out.2 (hs.1 h).1⟩)
            clear hs HB2
            go_wp2_with fail
            go_roundw
            case rel => exact ⟨j + 1, false, rfl, by go_num, by omega, HB3, by trivial⟩
            case measure => simp [intOf] <;> omega
          · by_cases ht : ts[j] < (k : Int)
            · have HB3 := Lib.hid (show (true = true ↔ pfx2 f k i ts (j + 1)) from ⟨fun h => hs.2 ⟨HB2.out.1 h, ht⟩, fun _ => rfl⟩)
              clear hs HB2
              go_wp2_with fail
              go_roundw
              case rel => exact ⟨j + 1, true, rfl, by go_num, by omega, HB3, by trivial⟩
              case measure => simp [intOf] <;> omega
            · have HB3 := Lib.hid (show (false = true ↔ pfx2 f k i ts (j + 1)) from ⟨fun h => (by cases h), fun h => absurd (hs.1 h).2 ht⟩)
              clear hs HB2
              go_wp2_with fail
              go_roundw
              case rel => exact ⟨j + 1, false, rfl, by go_num, by omega, HB3, by trivial⟩
              case measure => simp [intOf] <;> omega
        · obtain rfl : j = ts.length := by omega
          have z0_ : ¬ (ts.length : Int) < (ts.length : Int) := by omega
          have HB3 := Lib.hid (HB2.out.trans HE.out)
          clear HB2 HE HS H0
          go_wp2_with fail
          go_roundw
          case rel => exact ⟨i + 1, b, rfl, by go_num, by omega, HB3, by trivial⟩
          case measure => simp [intOf] <;> omega
    · obtain rfl : i = k := by omega
      have x0 : ¬ (i : Int) < (i : Int) := by omega
      have HG3 := Lib.hid (HCG.out i hkl n)
      have hfin := Mc.good_cut HGD.out hkl
      have hbz := HB.out.trans pfx_fits
      obtain ⟨Z, hZ⟩ : ∃ Z, Mc.check (Mc.thOf m) (Mc.cutF f i) n = Z := ⟨_, rfl⟩
      rw [hZ] at HG3 hfin
      obtain ⟨Z1, Z2⟩ := Z
      dsimp only at HG3 hfin
      have hz2 := hbz.trans hfin.symm
      clear hfin hbz hZ HB HCG HGD
      obtain ⟨⟨v0, v1, v2, v3⟩, -⟩ := cells4' V8.out
      rcases b with _ | _
      · have q0 : ¬ Z2 = 0 := fun h => by have := hz2.2 h; cases this
        have q0' : (Z2 == 0) = false := by simpa using q0
        clear hz2
        go_wp2_with (first | (go_at_call 12; (with_reducible refine (HG3.out _ I8.out.fs.glob I8.out.ml I8.out.fs.at_).mono ?_); rintro e w9 ⟨rfl, hb⟩; have I9 := Lib.hid (I8.out.step hb); clear hb I8 y0 y1 y2 y3 z0 z1 z2 z3 z4 z5 z6 z7 z8 z9 z10 z11; obtain ⟨y0, y1, y2, y3⟩ := mfV_cells I9.out.fs.var; obtain ⟨⟨z0, z1, z2, z3, z4, z5⟩, z6, z7, z8, z9, z10, z11⟩ := mdA_cells I9.out.md) | (go_at_call 12; (with_reducible refine (HC17.out _ I9.out.fs.glob I9.out.ml I9.out.fs.at_).mono ?_); rintro e w9 ⟨rfl, hb⟩; have I10 := Lib.hid (I9.out.step hb); clear hb I9 y0 y1 y2 y3 z0 z1 z2 z3 z4 z5 z6 z7 z8 z9 z10 z11; obtain ⟨y0, y1, y2, y3⟩ := mfV_cells I10.out.fs.var; obtain ⟨⟨z0, z1, z2, z3, z4, z5⟩, z6, z7, z8, z9, z10, z11⟩ := mdA_cells I10.out.md) | (go_at_call 11; (with_reducible refine (HA.out _ I10.out.fs.glob).mono ?_); rintro e w9 ⟨rfl, hb⟩; have I11 := Lib.hid (I10.out.step hb); clear hb I10))
        go_ret
        refine ⟨?_, I11.out.fs.bel⟩
        first | rfl | (show Ending.returned (.bool (!(Z2 == 0))) = _; rw [q0']; rfl)
      · obtain rfl : Z2 = 0 := hz2.1 rfl
        clear hz2
        go_wp2_with (first | (go_at_call 12; (with_reducible refine (HG3.out _ I8.out.fs.glob I8.out.ml I8.out.fs.at_).mono ?_); rintro e w9 ⟨rfl, hb⟩; have I9 := Lib.hid (I8.out.step hb); clear hb I8 y0 y1 y2 y3 z0 z1 z2 z3 z4 z5 z6 z7 z8 z9 z10 z11; obtain ⟨y0, y1, y2, y3⟩ := mfV_cells I9.out.fs.var; obtain ⟨⟨z0, z1, z2, z3, z4, z5⟩, z6, z7, z8, z9, z10, z11⟩ := mdA_cells I9.out.md) | (go_at_call 12; (with_reducible refine (HC17.out _ I9.out.fs.glob I9.out.ml I9.out.fs.at_).mono ?_); rintro e w9 ⟨rfl, hb⟩; have I10 := Lib.hid (I9.out.step hb); clear hb I9 y0 y1 y2 y3 z0 z1 z2 z3 z4 z5 z6 z7 z8 z9 z10 z11; obtain ⟨y0, y1, y2, y3⟩ := mfV_cells I10.out.fs.var; obtain ⟨⟨z0, z1, z2, z3, z4, z5⟩, z6, z7, z8, z9, z10, z11⟩ := mdA_cells I10.out.md) | (go_at_call 11; (with_reducible refine (HA.out _ I10.out.fs.glob).mono ?_); rintro e w9 ⟨rfl, hb⟩; have I11 := Lib.hid (I10.out.step hb); clear hb I10))
        go_ret
        exact ⟨rfl, I11.out.fs.bel⟩
end Go.Proofs.YtadnfekogmjieaaGreatDoor
