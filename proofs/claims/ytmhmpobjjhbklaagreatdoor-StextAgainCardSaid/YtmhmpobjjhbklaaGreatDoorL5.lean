/-
  Layer 40, the laws: StextAgain.
-/
import Derived.Test.YtmhmpobjjhbklaaGreatDoorL3
set_option linter.unusedVariables false
set_option linter.unusedSimpArgs false
namespace Go.Proofs.YtmhmpobjjhbklaaGreatDoor
open Go.RowKit
open St (InR)
/-- Both parameters of the law in memory. -/
theorem FAt.two {w : World} {x y : St.Ssa} {S T : Nat → Prop} {P R V B P' R' V' B' : Option Addr} {c1 c2 c3 c4 e1 e2 e3 e4 : Nat} (h : SsaAt S w x P R V B) (k : SsaAt T w y P' R' V' B') (G : Glob w) :
    FAt w ((w.alloc (.cells #[.slice P x.ps.length c1, .slice R x.rs.length c2, .slice V x.vals.length c3, .slice B x.blocks.length c4] 27)).alloc (.cells #[.slice P' y.ps.length e1, .slice R' y.rs.length e2, .slice V' y.vals.length e3, .slice B' y.blocks.length e4] 27)) w.heap.size x S P c1 R c2 V c3 B c4 ∧
    FAt w ((w.alloc (.cells #[.slice P x.ps.length c1, .slice R x.rs.length c2, .slice V x.vals.length c3, .slice B x.blocks.length c4] 27)).alloc (.cells #[.slice P' y.ps.length e1, .slice R' y.rs.length e2, .slice V' y.vals.length e3, .slice B' y.blocks.length e4] 27)) (w.heap.size + 1) y T P' e1 R' e2 V' e3 B' e4 := by
  have h1 : FAt w _ w.heap.size x S P c1 R c2 V c3 B c4 := FAt.new h G
  refine ⟨h1.step ((Below.refl _ _).alloc (Nat.le_refl _) _), ?_⟩
  have hb := h1.bel.alloc h1.bel.size (.cells #[.slice P' y.ps.length e1, .slice R' y.rs.length e2, .slice V' y.vals.length e3, .slice B' y.blocks.length e4] 27)
  exact ⟨Var.newE _ _ _ (by simp), k.on hb, G.below hb, hb⟩
set_option maxHeartbeats 4000000 in
set_option maxRecDepth 100000 in
theorem again_walk (s : St.W) (hs : s.length ≤ 9223372036854775807) (x y : St.Ssa) (hB : St.Big x) (hN : St.Num x) (hB' : St.Big y) (hN' : St.Num y) (S T : Nat → Prop) (P R V B P' R' V' B' : Option Addr) (c1 c2 c3 c4 e1 e2 e3 e4 : Nat) (w : World) (h : SsaAt S w x P R V B) (k : SsaAt T w y P' R' V' B') (G : Glob w) :
    Calls Tryz.prog 6 #[.string ⟨s.toArray⟩, ssaV x P c1 R c2 V c3 B c4, ssaV y P' e1 R' e2 V' e3 B' e4] w fun e w' => e = .returned (.bool true) ∧ Below w.heap.size w w' := by
  have hsz : (ByteArray.mk s.toArray).size = s.length := mk_size s
  obtain ⟨I0, J0⟩ := FAt.two (c1 := c1) (c2 := c2) (c3 := c3) (c4 := c4) (e1 := e1) (e2 := e2) (e3 := e3) (e4 := e4) h k G
  have HF := Lib.hid (fun W (h : SsaAt S W x P R V B) => few_any x hB S P R V B c1 c2 c3 c4 W h)
  have HF' := Lib.hid (fun W (h : SsaAt T W y P' R' V' B') => few_any y hB' T P' R' V' B' e1 e2 e3 e4 W h)
  have HA := Lib.hid (fun W (G : Glob W) => alive_any W G)
  have HIJ := Lib.hid (And.intro I0 J0)
  clear I0 J0 hB hB'
  by_cases hl : 4000 < s.length
  · have i1 : decide (4000 < (s.length : Int)) = true := by simp; omega
    have i2 : decide (4000 < s.length) = true := by simp; omega
    unfold ssaV
    obtain ⟨ps, rs, vals, blocks⟩ := x
    obtain ⟨ps', rs', vals', blocks'⟩ := y
    dsimp only at *
    clear h k hN hN' G hl HF HF'
    go_enter Tryz.func6, Tryz.ntmps6
    go_upto_region 1 with fail
    generalize (w.alloc (.cells #[.slice P ps.length c1, .slice R rs.length c2, .slice V vals.length c3, .slice B blocks.length c4] 27)).alloc (.cells #[.slice P' ps'.length e1, .slice R' rs'.length e2, .slice V' vals'.length e3, .slice B' blocks'.length e4] 27) = W0 at HIJ ⊢
    go_wp2_with (go_at_call 8; with_reducible refine (HA.out _ HIJ.out.1.gl).mono ?_; rintro e w2 ⟨rfl, hb⟩; have HI2 := Lib.hid (HIJ.out.1.step hb); clear hb)
    go_ret
    exact ⟨rfl, HI2.out.bel⟩
  have i1 : decide (4000 < (s.length : Int)) = false := by simp; omega
  have i2 : decide (4000 < s.length) = false := by simp; omega
  rcases hf : St.fewB x with _ | _
  · rw [hf] at HF
    unfold ssaV at HF ⊢
    obtain ⟨ps, rs, vals, blocks⟩ := x
    obtain ⟨ps', rs', vals', blocks'⟩ := y
    dsimp only at *
    clear h k hN hN' hf G hl HF'
    go_enter Tryz.func6, Tryz.ntmps6
    go_upto_region 1 with fail
    generalize (w.alloc (.cells #[.slice P ps.length c1, .slice R rs.length c2, .slice V vals.length c3, .slice B blocks.length c4] 27)).alloc (.cells #[.slice P' ps'.length e1, .slice R' rs'.length e2, .slice V' vals'.length e3, .slice B' blocks'.length e4] 27) = W0 at HIJ ⊢
    obtain ⟨d0, d1, d2, d3⟩ := HIJ.out.1.cells
    dsimp only at d0 d1 d2 d3
    go_wp2_with (first
      | (go_at_call 7; with_reducible refine (HF.out _ HIJ.out.1.frm).mono ?_; rintro e w1 ⟨rfl, hb⟩; have HI1 := Lib.hid (HIJ.out.1.step hb); clear hb d0 d1 d2 d3)
      | (go_at_call 8; with_reducible refine (HA.out _ HI1.out.gl).mono ?_; rintro e w2 ⟨rfl, hb⟩; have HI2 := Lib.hid (HI1.out.step hb); clear hb))
    go_ret
    exact ⟨rfl, HI2.out.bel⟩
  rcases hf' : St.fewB y with _ | _
  · rw [hf] at HF
    rw [hf'] at HF'
    unfold ssaV at HF HF' ⊢
    obtain ⟨ps, rs, vals, blocks⟩ := x
    obtain ⟨ps', rs', vals', blocks'⟩ := y
    dsimp only at *
    clear h k hN hN' hf hf' G hl
    go_enter Tryz.func6, Tryz.ntmps6
    go_upto_region 1 with fail
    generalize (w.alloc (.cells #[.slice P ps.length c1, .slice R rs.length c2, .slice V vals.length c3, .slice B blocks.length c4] 27)).alloc (.cells #[.slice P' ps'.length e1, .slice R' rs'.length e2, .slice V' vals'.length e3, .slice B' blocks'.length e4] 27) = W0 at HIJ ⊢
    obtain ⟨d0, d1, d2, d3⟩ := HIJ.out.1.cells
    dsimp only at d0 d1 d2 d3
    go_wp2_with (first
      | (go_at_call 7; with_reducible refine (HF.out _ HIJ.out.1.frm).mono ?_; rintro e w1 ⟨rfl, hb⟩; have J1 := (HIJ.out.2.step hb); clear hb d0 d1 d2 d3 HF; obtain ⟨d0, d1, d2, d3⟩ := J1.cells; dsimp only at d0 d1 d2 d3)
      | (go_at_call 7; with_reducible refine (HF'.out _ J1.frm).mono ?_; rintro e w1 ⟨rfl, hb⟩; have J2 := (J1.step hb); clear hb d0 d1 d2 d3)
      | (go_at_call 8; with_reducible refine (HA.out _ J2.gl).mono ?_; rintro e w2 ⟨rfl, hb⟩; have J3 := (J2.step hb); clear hb))
    go_ret
    exact ⟨rfl, J3.bel⟩
  rw [hf] at HF
  rw [hf'] at HF'
  have hfew := St.few_of hf
  have hok := St.few_ok hfew hN
  have hfew' := St.few_of hf'
  have hok' := St.few_ok hfew' hN'
  have HP := Lib.hid (fun W (h : SsaAt S W x P R V B) (G : Glob W) => sprint_any x hok (St.few_len hfew hN) S P R V B c1 c2 c3 c4 W h G)
  have HP' := Lib.hid (fun W (h : SsaAt T W y P' R' V' B') (G : Glob W) => sprint_any y hok' (St.few_len hfew' hN') T P' R' V' B' e1 e2 e3 e4 W h G)
  have HSM := Lib.hid (fun W (h1 : SsaAt S W x P R V B) (h2 : SsaAt T W y P' R' V' B') => rsame_any S T x y hok P R V B P' R' V' B' c1 c2 c3 c4 e1 e2 e3 e4 W h1 h2)
  have hrel : St.printO x ≠ [] → St.printO y ≠ [] → St.ssaSame x y = (St.printO x == St.printO y) := fun a b => by
    have mx := St.printO_ne a
    have my := St.printO_ne b
    rw [Bool.eq_iff_iff, St.ssaSame_iff, beq_iff_eq]
    exact ⟨fun e => by rw [e], fun e => St.print_inj hok hok' mx my e⟩
  have hsl := St.split_lnok (s := s) (by omega)
  have HS := Lib.hid (fun W (G : Glob W) => sparse_any s (by omega) hsl.1 W G)
  have hps := St.parse_some s hsl.1 hsl.2
  have hpz : ∀ z : St.Ssa, St.printO z = s → St.may z = true → (Lib.join (St.linesO z) [10]).length ≤ 1000000 := fun z e m => by
    have : (St.printO z).length = (Lib.join (St.linesO z) [10]).length + 1 := by unfold St.printO; rw [if_pos m, List.length_append]; rfl
    rw [e] at this
    omega
  obtain ⟨T1, hT1⟩ : ∃ T, St.printO x = T := ⟨_, rfl⟩
  obtain ⟨T2, hT2⟩ : ∃ T, St.printO y = T := ⟨_, rfl⟩
  obtain ⟨sm, hsm⟩ : ∃ b, St.ssaSame x y = b := ⟨_, rfl⟩
  rw [hT1] at HP hrel
  rw [hT2] at HP' hrel
  rw [hsm] at HSM hrel
  unfold ssaV at HF HF' HP HP' HSM ⊢
  obtain ⟨ps, rs, vals, blocks⟩ := x
  obtain ⟨ps', rs', vals', blocks'⟩ := y
  dsimp only at *
  have HCASE : Hid ((T1 == ([] : List UInt8)) = true ∨ ((T1 == ([] : List UInt8)) = false ∧ (T2 == ([] : List UInt8)) = true) ∨ ((T1 == ([] : List UInt8)) = false ∧ (T2 == ([] : List UInt8)) = false ∧ (T1 == T2) = true ∧ sm = true) ∨ ((T1 == ([] : List UInt8)) = false ∧ (T2 == ([] : List UInt8)) = false ∧ (T1 == T2) = false ∧ sm = false)) := Lib.hid (by
    by_cases a : T1 = []
    · exact .inl (by simp [a])
    by_cases b : T2 = []
    · exact .inr (.inl ⟨by simpa using a, by simp [b]⟩)
    have e := hrel a b
    rcases h : (T1 == T2) with _ | _
    · exact .inr (.inr (.inr ⟨by simpa using a, by simpa using b, rfl, by rw [e, h]⟩))
    · exact .inr (.inr (.inl ⟨by simpa using a, by simpa using b, rfl, by rw [e, h]⟩)))
  have hss : (s == s) = true := by simp
  clear h k hN hN' hf hf' G hl hfew hfew' hok hok' hrel hT1 hT2 hsm
  rcases hps with ⟨z, hz, hzo, hzm, hzp⟩ | ⟨n, hn1, hn2, hz⟩
  case' inl =>
    have HPZ := Lib.hid (fun S P R V B c1 c2 c3 c4 W (h : SsaAt S W z P R V B) (G : Glob W) => sprint_any z hzo (hpz z hzp hzm) S P R V B c1 c2 c3 c4 W h G)
    rw [hzp] at HPZ
    unfold ParseOut at HS
    rw [hz] at HS
    unfold ssaV at HS HPZ
    obtain ⟨zps, zrs, zvals, zblocks⟩ := z
    dsimp only at HS HPZ
    clear hz hzo hzm hzp hpz hsl
  case' inr =>
    have hN1 : ¬ ((n : Int) < 1) := by omega
    unfold ParseOut at HS
    rw [hz] at HS
    unfold ssaV at HS
    obtain ⟨⟨zps, zrs, zvals, zblocks⟩, hze⟩ : ∃ z, St.empty = z := ⟨_, rfl⟩
    rw [hze] at HS
    dsimp only at HS
    have HPZ : Hid True := Lib.hid trivial
    clear hz hpz hsl hze hn1 hn2
  all_goals
    go_enter Tryz.func6, Tryz.ntmps6
    go_upto_region 1 with fail
    generalize (w.alloc (.cells #[.slice P ps.length c1, .slice R rs.length c2, .slice V vals.length c3, .slice B blocks.length c4] 27)).alloc (.cells #[.slice P' ps'.length e1, .slice R' rs'.length e2, .slice V' vals'.length e3, .slice B' blocks'.length e4] 27) = W0 at HIJ ⊢
    obtain ⟨d0, d1, d2, d3⟩ := HIJ.out.1.cells
    obtain ⟨g0, g1, g2, g3⟩ := HIJ.out.2.cells
    dsimp only at d0 d1 d2 d3 g0 g1 g2 g3
    go_upto_region 4 with (first
      | (go_at_call 7; with_reducible refine (HF.out _ HIJ.out.1.frm).mono ?_; rintro e w1 ⟨rfl, hb⟩; have I1 := (HIJ.out.1.step hb); have J1 := (HIJ.out.2.step hb); clear hb d0 d1 d2 d3 g0 g1 g2 g3 HF; obtain ⟨d0, d1, d2, d3⟩ := J1.cells; dsimp only at d0 d1 d2 d3)
      | (go_at_call 7; with_reducible refine (HF'.out _ J1.frm).mono ?_; rintro e w2 ⟨rfl, hb⟩; have I2 := (I1.step hb); have J2 := (J1.step hb); clear hb d0 d1 d2 d3 I1 J1 HF')
      | (go_at_call 11; with_reducible refine (HS.out _ I2.gl).mono ?_; rintro e w3 ⟨⟨S5, P5, f1, R5, f2, V5, f3, B5, f4, rfl, hsa⟩, hb⟩; have HI3 := Lib.hid (I2.step hb); have HJ3 := Lib.hid (J2.step hb); have HSA := Lib.hid hsa; clear hb I2 J2 hsa))
    refine at_code (F := fun W => FAt w W w.heap.size ⟨ps, rs, vals, blocks⟩ S P c1 R c2 V c3 B c4 ∧ FAt w W (w.heap.size + 1) ⟨ps', rs', vals', blocks'⟩ T P' e1 R' e2 V' e3 B' e4 ∧ FAt w3 W w3.heap.size ⟨zps, zrs, zvals, zblocks⟩ S5 P5 f1 R5 f2 V5 f3 B5 f4) ⟨HI3.out.step ((Below.refl _ _).alloc (Nat.le_refl _) _), HJ3.out.step ((Below.refl _ _).alloc (Nat.le_refl _) _), FAt.new HSA.out HI3.out.gl⟩ ?_
    rintro w4 ⟨I4, J4, Z4⟩
    obtain ⟨d0, d1, d2, d3⟩ := Z4.cells
    dsimp only at d0 d1 d2 d3
    obtain ⟨K3, hK3⟩ : ∃ K, w3.heap.size = K := ⟨_, rfl⟩
    have HI4 := Lib.hid I4
    have HJ4 := Lib.hid J4
    rw [hK3] at d0 d1 d2 d3
    simp only [hK3]
    clear hK3 I4 J4
    go_upto_region 6 with (go_at_call 9; with_reducible refine (HPZ.out _ _ _ _ _ _ _ _ _ _ Z4.frm Z4.gl).mono ?_; rintro e w5 ⟨rfl, hb⟩; have HB5 := Lib.hid hb; clear hb d0 d1 d2 d3 Z4)
    first
      | refine at_code (F := fun W => FAt w W w.heap.size ⟨ps, rs, vals, blocks⟩ S P c1 R c2 V c3 B c4 ∧ FAt w W (w.heap.size + 1) ⟨ps', rs', vals', blocks'⟩ T P' e1 R' e2 V' e3 B' e4) ⟨HI4.out.step HB5.out, HJ4.out.step HB5.out⟩ ?_
      | refine at_code (F := fun W => FAt w W w.heap.size ⟨ps, rs, vals, blocks⟩ S P c1 R c2 V c3 B c4 ∧ FAt w W (w.heap.size + 1) ⟨ps', rs', vals', blocks'⟩ T P' e1 R' e2 V' e3 B' e4) ⟨HI4.out, HJ4.out⟩ ?_
    rintro w6 ⟨I6, J6⟩
    (try clear HPZ)
    (try clear HB5)
    (try clear Z4)
    (try clear d0 d1 d2 d3)
    clear HI4 HJ4
    have hcase := HCASE.out
    clear HCASE
    rcases hcase with q1 | ⟨q1, q2⟩ | ⟨q1, q2, q3, rfl⟩ | ⟨q1, q2, q3, rfl⟩
    all_goals
      obtain ⟨d0, d1, d2, d3⟩ := I6.cells; obtain ⟨g0, g1, g2, g3⟩ := J6.cells; dsimp only at d0 d1 d2 d3 g0 g1 g2 g3
      go_region_held3 (fun w' => w'.cell? ⟨w.heap.size, 0, none⟩ = some (.slice P ps.length c1) ∧ w'.cell? ⟨w.heap.size, 1, none⟩ = some (.slice R rs.length c2) ∧ w'.cell? ⟨w.heap.size, 2, none⟩ = some (.slice V vals.length c3) ∧ w'.cell? ⟨w.heap.size, 3, none⟩ = some (.slice B blocks.length c4) ∧ w'.cell? ⟨w.heap.size + 1, 0, none⟩ = some (.slice P' ps'.length e1) ∧ w'.cell? ⟨w.heap.size + 1, 1, none⟩ = some (.slice R' rs'.length e2) ∧ w'.cell? ⟨w.heap.size + 1, 2, none⟩ = some (.slice V' vals'.length e3) ∧ w'.cell? ⟨w.heap.size + 1, 3, none⟩ = some (.slice B' blocks'.length e4))
        (go_keep)
        (first
          | (go_at_call 9; (with_reducible refine (HP.out _ I6.drew.frm I6.drew.gl).mono ?_); rintro e w7 ⟨rfl, hb⟩; have I7 := I6.drew.step hb; have J7 := J6.drew.step hb; clear d0 d1 d2 d3 g0 g1 g2 g3; obtain ⟨d0, d1, d2, d3⟩ := I7.cells; obtain ⟨g0, g1, g2, g3⟩ := J7.cells; dsimp only at d0 d1 d2 d3 g0 g1 g2 g3; clear hb I6 J6)
          | (go_at_call 9; (with_reducible refine (HP'.out _ J7.frm J7.gl).mono ?_); rintro e w8 ⟨rfl, hb⟩; have I8 := I7.step hb; have J8 := J7.step hb; clear d0 d1 d2 d3 g0 g1 g2 g3; obtain ⟨d0, d1, d2, d3⟩ := I8.cells; obtain ⟨g0, g1, g2, g3⟩ := J8.cells; dsimp only at d0 d1 d2 d3 g0 g1 g2 g3; clear hb I7 J7))
      go_wp2_with (first
        | (go_at_call 13; with_reducible refine (HSM.out _ I8.frm J8.frm).mono ?_; rintro e w9 ⟨rfl, hb⟩; have I9 := (I8.step hb); clear hb d0 d1 d2 d3 g0 g1 g2 g3)
        | (go_at_call 8; with_reducible refine (HA.out _ I9.gl).mono ?_; rintro e w10 ⟨rfl, hb⟩; have HE := Lib.hid (I9.step hb).bel; clear hb)
        | (go_at_call 8; with_reducible refine (HA.out _ I8.gl).mono ?_; rintro e w10 ⟨rfl, hb⟩; have HE := Lib.hid (I8.step hb).bel; clear hb))
      go_ret
      exact ⟨rfl, HE.out⟩
end Go.Proofs.YtmhmpobjjhbklaaGreatDoor
