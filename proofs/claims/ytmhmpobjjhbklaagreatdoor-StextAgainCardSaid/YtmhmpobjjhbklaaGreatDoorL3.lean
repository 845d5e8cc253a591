/-
  Layer 40, the laws: StextPrints.
-/
import Derived.Test.YtmhmpobjjhbklaaGreatDoorPD
import Derived.Test.YtmhmpobjjhbklaaGreatDoorSR4
import Derived.Test.YtmhmpobjjhbklaaGreatDoorSR5
import Derived.Deep.RegionHeld3
set_option linter.unusedVariables false
set_option linter.unusedSimpArgs false
namespace Go.Proofs.YtmhmpobjjhbklaaGreatDoor
namespace St
theorem few_of {x : Ssa} (h : fewB x = true) : Few x := by
  unfold fewB at h
  simp only [Bool.and_eq_true, decide_eq_true_eq] at h
  obtain ⟨h1, h2⟩ := h
  refine ⟨h1, ?_⟩
  unfold tot bSum at h2
  rw [List.take_of_length_le (by omega)] at h2
  have e : x.blocks.map bTot = x.blocks.map costB := List.map_congr_left fun b hb => by
    have hc := sum_mem bTot _ b hb
    have h3 : bTot b ≤ 900 := by omega
    have h3' := h3
    unfold bTot at h3'
    unfold bTot insSum edSum costB costE
    rw [List.take_of_length_le (by omega), List.take_of_length_le (by omega)]
    rfl
  unfold cost
  rw [e] at h2
  exact h2
end St
open Go.RowKit
open St (InR)
set_option maxHeartbeats 4000000 in
set_option maxRecDepth 100000 in
theorem prints_walk (x : St.Ssa) (hB : St.Big x) (hN : St.Num x) (S : Nat → Prop) (P R V B : Option Addr) (c1 c2 c3 c4 : Nat) (w : World) (h : SsaAt S w x P R V B) (G : Glob w) :
    Calls Tryz.prog 3 #[ssaV x P c1 R c2 V c3 B c4] w fun e w' => e = .returned (.bool true) ∧ Below w.heap.size w w' := by
  have I0 : FAt w _ w.heap.size x S P c1 R c2 V c3 B c4 := FAt.new h G
  have HF := Lib.hid (fun W (h : SsaAt S W x P R V B) => few_any x hB S P R V B c1 c2 c3 c4 W h)
  have HA := Lib.hid (fun W (G : Glob W) => alive_any W G)
  rcases hf : St.fewB x with _ | _
  · rw [hf] at HF
    unfold ssaV at HF ⊢
    obtain ⟨ps, rs, vals, blocks⟩ := x
    dsimp only at *
    have HI := Lib.hid I0
    clear I0 h hB hN hf G
    go_enter Tryz.func3, Tryz.ntmps3
    go_upto_region 1 with fail
    generalize w.alloc (.cells #[.slice P ps.length c1, .slice R rs.length c2, .slice V vals.length c3, .slice B blocks.length c4] 27) = W0 at HI ⊢
    have cs := HI.out.cells
    obtain ⟨d0, d1, d2, d3⟩ := cs
    dsimp only at d0 d1 d2 d3
    go_wp2_with (first
      | (go_at_call 7; with_reducible refine (HF.out _ HI.out.frm).mono ?_; rintro e w1 ⟨rfl, hb⟩; have HI1 := Lib.hid (HI.out.step hb); clear hb d0 d1 d2 d3)
      | (go_at_call 8; with_reducible refine (HA.out _ HI1.out.gl).mono ?_; rintro e w2 ⟨rfl, hb⟩; have HI2 := Lib.hid (HI1.out.step hb); clear hb))
    go_ret
    exact ⟨rfl, HI2.out.bel⟩
  · rw [hf] at HF
    have hfew := St.few_of hf
    have hok := St.few_ok hfew hN
    have hlen : (Lib.join (St.linesO x) [10]).length ≤ 1000000 ∧ (St.bodyR x).length ≤ 2000000 := ⟨St.few_len hfew hN, St.body_len hfew hN⟩
    have HP := Lib.hid (fun W (h : SsaAt S W x P R V B) (G : Glob W) => sprint_any x hok hlen.1 S P R V B c1 c2 c3 c4 W h G)
    have HR := Lib.hid (fun W (h : SsaAt S W x P R V B) => rprint_any x hok hlen.2 S P R V B c1 c2 c3 c4 W h)
    rw [St.print_eq] at HP
    obtain ⟨T, hT⟩ : ∃ T, St.printR x = T := ⟨_, rfl⟩
    rw [hT] at HP HR
    unfold ssaV at HF HP HR ⊢
    obtain ⟨ps, rs, vals, blocks⟩ := x
    dsimp only at *
    have HI := Lib.hid I0
    clear I0 h hB hN hf hfew hok hlen G hT
    go_enter Tryz.func3, Tryz.ntmps3
    go_upto_region 1 with fail
    generalize w.alloc (.cells #[.slice P ps.length c1, .slice R rs.length c2, .slice V vals.length c3, .slice B blocks.length c4] 27) = W0 at HI ⊢
    have cs := HI.out.cells
    obtain ⟨d0, d1, d2, d3⟩ := cs
    dsimp only at d0 d1 d2 d3
    go_upto_region 3 with (go_at_call 7; with_reducible refine (HF.out _ HI.out.frm).mono ?_; rintro e w1 ⟨rfl, hb⟩; have I0 := (HI.out.step hb); clear hb d0 d1 d2 d3 HI)
    have cs := I0.cells
    obtain ⟨d0, d1, d2, d3⟩ := cs
    dsimp only at d0 d1 d2 d3
    go_region_held3 (fun w' => w'.cell? ⟨w.heap.size, 0, none⟩ = some (.slice P ps.length c1) ∧ w'.cell? ⟨w.heap.size, 1, none⟩ = some (.slice R rs.length c2) ∧ w'.cell? ⟨w.heap.size, 2, none⟩ = some (.slice V vals.length c3) ∧ w'.cell? ⟨w.heap.size, 3, none⟩ = some (.slice B blocks.length c4))
      (go_keep)
      (first
        | (go_at_call 9; (with_reducible refine (HP.out _ I0.drew.frm I0.drew.gl).mono ?_); rintro e w2 ⟨rfl, hb⟩; have I1 := I0.drew.step hb; clear d0 d1 d2 d3; obtain ⟨d0, d1, d2, d3⟩ := I1.cells; dsimp only at d0 d1 d2 d3; clear hb I0)
        | (go_at_call 10; (with_reducible refine (HR.out _ I1.frm).mono ?_); rintro e w3 ⟨rfl, hb⟩; have I2 := I1.step hb; clear d0 d1 d2 d3; obtain ⟨d0, d1, d2, d3⟩ := I2.cells; dsimp only at d0 d1 d2 d3; clear hb I1)
        | (go_at_call 8; (with_reducible refine (HA.out _ I2.gl).mono ?_); rintro e w4 ⟨rfl, hb⟩; have I3 := I2.step hb; clear d0 d1 d2 d3; obtain ⟨d0, d1, d2, d3⟩ := I3.cells; dsimp only at d0 d1 d2 d3; clear hb I2))
    all_goals
      go_wp2
      go_ret
      exact ⟨rfl, I3.bel⟩
end Go.Proofs.YtmhmpobjjhbklaaGreatDoor
