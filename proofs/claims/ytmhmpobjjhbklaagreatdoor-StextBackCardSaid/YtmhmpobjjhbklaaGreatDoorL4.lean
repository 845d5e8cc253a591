/-
  Layer 40, the laws: StextBack.
-/
import Derived.Test.YtmhmpobjjhbklaaGreatDoorL3
set_option linter.unusedVariables false
set_option linter.unusedSimpArgs false
namespace Go.Proofs.YtmhmpobjjhbklaaGreatDoor
open Go.RowKit
open St (InR)
set_option maxHeartbeats 4000000 in
set_option maxRecDepth 100000 in
theorem back_walk (x : St.Ssa) (hB : St.Big x) (hN : St.Num x) (S : Nat → Prop) (P R V B : Option Addr) (c1 c2 c3 c4 : Nat) (w : World) (h : SsaAt S w x P R V B) (G : Glob w) :
    Calls Tryz.prog 5 #[ssaV x P c1 R c2 V c3 B c4] w fun e w' => e = .returned (.bool true) ∧ Below w.heap.size w w' := by
  have I0 : FAt w _ w.heap.size x S P c1 R c2 V c3 B c4 := FAt.new h G
  have HF := Lib.hid (fun W (h : SsaAt S W x P R V B) => few_any x hB S P R V B c1 c2 c3 c4 W h)
  have HA := Lib.hid (fun W (G : Glob W) => alive_any W G)
  rcases hf : St.fewB x with _ | _
  · rw [hf] at HF
    unfold ssaV at HF ⊢
    obtain ⟨ps, rs, vals, blocks⟩ := x
    dsimp only at *
    have HI := Lib.hid I0
    clear I0 h hB hN hf G
    go_enter Tryz.func5, Tryz.ntmps5
    go_upto_region 1 with fail
    generalize w.alloc (.cells #[.slice P ps.length c1, .slice R rs.length c2, .slice V vals.length c3, .slice B blocks.length c4] 27) = W0 at HI ⊢
    have cs := HI.out.cells
    obtain ⟨d0, d1, d2, d3⟩ := cs
    dsimp only at d0 d1 d2 d3
    go_wp2_with (first
      | (go_at_call 7; with_reducible refine (HF.out _ HI.out.frm).mono ?_; rintro e w1 ⟨rfl, hb⟩; have HI1 := Lib.hid (HI.out.step hb); clear hb d0 d1 d2 d3)
      | (go_at_call 8; with_reducible refine (HA.out _ HI1.out.gl).mono ?_; rintro e w2 ⟨rfl, hb⟩; have HI2 := Lib.hid (HI1.out.step hb); clear hb))
    go_ret
    exact ⟨rfl, HI2.out.bel⟩
  rw [hf] at HF
  have hfew := St.few_of hf
  have hok := St.few_ok hfew hN
  rcases hm : St.may x with _ | _
  · have hp0 : St.printO x = [] := by unfold St.printO; rw [hm]; rfl
    have hlen : (Lib.join (St.linesO x) [10]).length ≤ 1000000 := St.few_len hfew hN
    have HP := Lib.hid (fun W (h : SsaAt S W x P R V B) (G : Glob W) => sprint_any x hok hlen S P R V B c1 c2 c3 c4 W h G)
    have HM := Lib.hid (fun W (h : SsaAt S W x P R V B) => rmay_any x hok S P R V B c1 c2 c3 c4 W h)
    rw [hp0] at HP
    rw [hm] at HM
    unfold ssaV at HF HP HM ⊢
    obtain ⟨ps, rs, vals, blocks⟩ := x
    dsimp only at *
    have HI := Lib.hid I0
    clear I0 h hB hN hf hfew hok hlen G hm hp0
    go_enter Tryz.func5, Tryz.ntmps5
    go_upto_region 1 with fail
    generalize w.alloc (.cells #[.slice P ps.length c1, .slice R rs.length c2, .slice V vals.length c3, .slice B blocks.length c4] 27) = W0 at HI ⊢
    have cs := HI.out.cells
    obtain ⟨d0, d1, d2, d3⟩ := cs
    dsimp only at d0 d1 d2 d3
    go_wp2_with (first
      | (go_at_call 7; with_reducible refine (HF.out _ HI.out.frm).mono ?_; rintro e w1 ⟨rfl, hb⟩; have I1 := (HI.out.step hb); clear hb d0 d1 d2 d3 HI; obtain ⟨d0, d1, d2, d3⟩ := I1.cells; dsimp only at d0 d1 d2 d3)
      | (go_at_call 9; with_reducible refine (HP.out _ I1.frm I1.gl).mono ?_; rintro e w2 ⟨rfl, hb⟩; have I2 := (I1.step hb); clear hb d0 d1 d2 d3 I1; obtain ⟨d0, d1, d2, d3⟩ := I2.cells; dsimp only at d0 d1 d2 d3)
      | (go_at_call 14; with_reducible refine (HM.out _ I2.frm).mono ?_; rintro e w3 ⟨rfl, hb⟩; have I3 := (I2.step hb); clear hb d0 d1 d2 d3 I2)
      | (go_at_call 8; with_reducible refine (HA.out _ I3.gl).mono ?_; rintro e w4 ⟨rfl, hb⟩; have I4 := (I3.step hb); clear hb I3))
    go_ret
    exact ⟨rfl, I4.bel⟩
  · have hlen := St.print_len hfew hN
    have hpo : St.printO x = Lib.join (St.linesO x) [10] ++ [10] := by unfold St.printO; rw [if_pos hm]
    have hlen1 : (Lib.join (St.linesO x) [10]).length ≤ 1000000 := St.few_len hfew hN
    have HP := Lib.hid (fun W (h : SsaAt S W x P R V B) (G : Glob W) => sprint_any x hok hlen1 S P R V B c1 c2 c3 c4 W h G)
    have hpb := St.parse_back x hok hm
    have hsp := St.split_print x hm
    have hln := St.few_lines hfew hN hm
    have hpn := St.printO_may hm
    obtain ⟨T, hT⟩ : ∃ T, St.printO x = T := ⟨_, rfl⟩
    rw [hT] at HP hpb hsp hpo hpn
    have hTl : T.length ≤ 800000 := by rw [hpo]; omega
    have HS := Lib.hid (fun W (G : Glob W) => sparse_any T hTl (by
      rw [hsp]
      intro u hu
      rcases List.mem_append.1 hu with hu | hu
      · exact hln u hu
      · rw [List.mem_singleton.1 hu]; exact St.lnok_small (by simp)) W G)
    rw [hpb] at HS
    have HSM := Lib.hid (fun (T : Nat → Prop) P2 R2 V2 B2 d1 d2 d3 d4 W (h1 : SsaAt S W x P R V B) (h2 : SsaAt T W x P2 R2 V2 B2) => rsame_any S T x x hok P R V B P2 R2 V2 B2 c1 c2 c3 c4 d1 d2 d3 d4 W h1 h2)
    rw [(St.ssaSame_iff x x).2 rfl] at HSM
    have hne : (T == ([] : List UInt8)) = false := beq_eq_false_iff_ne.2 hpn
    unfold ParseOut at HS
    unfold ssaV at HF HP HS HSM ⊢
    obtain ⟨ps, rs, vals, blocks⟩ := x
    dsimp only at *
    have HI := Lib.hid I0
    clear I0 h hB hN hf hfew hok hlen G hm hlen1 hpo hpb hsp hln hpn hT hTl
    go_enter Tryz.func5, Tryz.ntmps5
    go_upto_region 1 with fail
    generalize w.alloc (.cells #[.slice P ps.length c1, .slice R rs.length c2, .slice V vals.length c3, .slice B blocks.length c4] 27) = W0 at HI ⊢
    have cs := HI.out.cells
    obtain ⟨d0, d1, d2, d3⟩ := cs
    dsimp only at d0 d1 d2 d3
    go_upto_region 7 with (first
      | (go_at_call 7; with_reducible refine (HF.out _ HI.out.frm).mono ?_; rintro e w1 ⟨rfl, hb⟩; have I1 := (HI.out.step hb); clear hb d0 d1 d2 d3 HI; obtain ⟨d0, d1, d2, d3⟩ := I1.cells; dsimp only at d0 d1 d2 d3)
      | (go_at_call 9; with_reducible refine (HP.out _ I1.frm I1.gl).mono ?_; rintro e w2 ⟨rfl, hb⟩; have I2 := (I1.step hb); clear hb d0 d1 d2 d3 I1)
      | (go_at_call 11; with_reducible refine (HS.out _ I2.gl).mono ?_; rintro e w3 ⟨⟨S', P', e1, R', e2, V', e3, B', e4, rfl, hsa⟩, hb⟩; have HJ := Lib.hid (I2.step hb); have HSA := Lib.hid hsa; clear hb I2 hsa))
    refine at_code (F := fun W => FAt w W w.heap.size ⟨ps, rs, vals, blocks⟩ S P c1 R c2 V c3 B c4 ∧ FAt w3 W w3.heap.size ⟨ps, rs, vals, blocks⟩ S' P' e1 R' e2 V' e3 B' e4) ⟨HJ.out.step ((Below.refl _ _).alloc (Nat.le_refl _) _), FAt.new HSA.out HJ.out.gl⟩ ?_
    rintro w4 ⟨I4, J4⟩
    obtain ⟨d0, d1, d2, d3⟩ := I4.cells
    obtain ⟨f0, f1, f2, f3⟩ := J4.cells
    dsimp only at d0 d1 d2 d3 f0 f1 f2 f3
    go_wp2_with (first
      | (go_at_call 13; with_reducible refine (HSM.out _ _ _ _ _ _ _ _ _ _ I4.frm J4.frm).mono ?_; rintro e w5 ⟨rfl, hb⟩; have I5 := (I4.step hb); clear hb d0 d1 d2 d3 f0 f1 f2 f3 I4 J4)
      | (go_at_call 8; with_reducible refine (HA.out _ I5.gl).mono ?_; rintro e w6 ⟨rfl, hb⟩; have I6 := (I5.step hb); clear hb I5))
    go_ret
    exact ⟨rfl, I6.bel⟩
end Go.Proofs.YtmhmpobjjhbklaaGreatDoor
