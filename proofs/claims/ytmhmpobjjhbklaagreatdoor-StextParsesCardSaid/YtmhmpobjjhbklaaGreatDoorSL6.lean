/-
  Layer 40, the laws: StextParses.
-/
import Derived.Test.YtmhmpobjjhbklaaGreatDoorSL3
import Derived.Test.YtmhmpobjjhbklaaGreatDoorSQD
set_option linter.unusedVariables false
set_option linter.unusedSimpArgs false
namespace Go.Proofs.YtmhmpobjjhbklaaGreatDoor
open Go.RowKit
open St (InR)
theorem empty_ok : St.empty.Ok := ⟨by simp [St.empty], by simp [St.empty], by simp [St.empty], ⟨by simp [St.empty], by simp [St.empty]⟩⟩
set_option maxHeartbeats 4000000 in
set_option maxRecDepth 100000 in
theorem sparses_walk (s : St.W) (hs : s.length ≤ 9223372036854775807) (w : World) (G : Glob w) :
    Calls Tryz.prog 4 #[.string ⟨s.toArray⟩] w fun e w' => e = .returned (.bool true) ∧ Below w.heap.size w w' := by
  have hsz : (ByteArray.mk s.toArray).size = s.length := mk_size s
  have HA := Lib.hid (fun W (G : Glob W) => alive_any W G)
  by_cases hl : 4000 < s.length
  · have i1 : decide (4000 < (s.length : Int)) = true := by simp; omega
    have i2 : decide (4000 < s.length) = true := by simp; omega
    have HG := Lib.hid G
    clear hl G
    go_enter Tryz.func4, Tryz.ntmps4
    go_wp2_with (go_at_call 8; with_reducible refine (HA.out _ HG.out).mono ?_; rintro e w2 ⟨rfl, hb⟩; have HB := Lib.hid hb; clear hb)
    go_ret
    exact ⟨rfl, HB.out⟩
  have i1 : decide (4000 < (s.length : Int)) = false := by simp; omega
  have i2 : decide (4000 < s.length) = false := by simp; omega
  obtain ⟨l1, l2⟩ := St.split_lnok (s := s) (by omega)
  have HS := Lib.hid (fun W (G : Glob W) => sparse_any s (by omega) l1 W G)
  have HR := Lib.hid (fun W => rparse_any s (by omega) W)
  rw [St.parse_same (by omega)] at HR
  obtain ⟨x, n, e, hp, hok⟩ : ∃ x n e, St.parseO s = (x, n, e) ∧ x.Ok := by
    rcases St.parse_some s l1 l2 with ⟨x, hp, hok, -, -⟩ | ⟨n, -, -, hp⟩
    · exact ⟨x, 0, 0, hp, hok⟩
    · exact ⟨_, _, _, hp, empty_ok⟩
  rw [hp] at HS HR
  have HSM := Lib.hid (fun (S T : Nat → Prop) P R V B c1 c2 c3 c4 P2 R2 V2 B2 d1 d2 d3 d4 W (h1 : SsaAt S W x P R V B) (h2 : SsaAt T W x P2 R2 V2 B2) => rsame_any S T x x hok P R V B P2 R2 V2 B2 c1 c2 c3 c4 d1 d2 d3 d4 W h1 h2)
  rw [(St.ssaSame_iff x x).2 rfl] at HSM
  unfold ParseOut at HS HR
  unfold ssaV at HS HR HSM
  obtain ⟨ps, rs, vals, blocks⟩ := x
  have HG := Lib.hid G
  dsimp only at *
  clear hl G l1 l2 hp hok
  go_enter Tryz.func4, Tryz.ntmps4
  go_upto_region 4 with (go_at_call 11; with_reducible refine (HS.out _ HG.out).mono ?_; rintro e w1 ⟨⟨S, P, c1, R, c2, V, c3, B, c4, rfl, hsa⟩, hb⟩; have HJ := Lib.hid hb; have HSA := Lib.hid hsa; clear hb hsa)
  refine at_code (F := fun W => Below w.heap.size w W ∧ Glob W ∧ FAt w1 W w1.heap.size ⟨ps, rs, vals, blocks⟩ S P c1 R c2 V c3 B c4) ⟨HJ.out.alloc HJ.out.size _, (HG.out.below HJ.out).below ((Below.refl _ _).alloc (Nat.le_refl _) _), FAt.new HSA.out (HG.out.below HJ.out)⟩ ?_
  rintro w4 ⟨B4, G4, I4⟩
  clear HJ HSA HS
  go_upto_region 5 with (go_at_call 12; with_reducible refine (HR.out _).mono ?_; rintro e w5 ⟨⟨S', P', e1, R', e2, V', e3, B', e4, rfl, hsa⟩, hb⟩; have HJ := Lib.hid hb; have HSA := Lib.hid hsa; clear hb hsa)
  refine at_code (F := fun W => Below w.heap.size w W ∧ FAt w1 W w1.heap.size ⟨ps, rs, vals, blocks⟩ S P c1 R c2 V c3 B c4 ∧ FAt w5 W w5.heap.size ⟨ps, rs, vals, blocks⟩ S' P' e1 R' e2 V' e3 B' e4) ⟨(B4.trans (HJ.out.mono B4.size)).alloc (Nat.le_trans B4.size HJ.out.size) _, (I4.step HJ.out).step ((Below.refl _ _).alloc (Nat.le_refl _) _), FAt.new HSA.out (G4.below HJ.out)⟩ ?_
  clear HJ HSA HR B4 G4 I4
  rintro w6 ⟨B6, I4, J4⟩
  obtain ⟨d0, d1, d2, d3⟩ := I4.cells
  obtain ⟨f0, f1, f2, f3⟩ := J4.cells
  dsimp only at d0 d1 d2 d3 f0 f1 f2 f3
  go_wp2_with (first
    | (go_at_call 13; with_reducible refine (HSM.out _ _ _ _ _ _ _ _ _ _ _ _ _ _ _ _ _ _ _ I4.frm J4.frm).mono ?_; rintro e w7 ⟨rfl, hb⟩; have I5 := (I4.step hb); have B7 := B6.trans (hb.mono B6.size); clear hb d0 d1 d2 d3 f0 f1 f2 f3 I4 J4)
    | (go_at_call 8; with_reducible refine (HA.out _ I5.gl).mono ?_; rintro e w8 ⟨rfl, hb⟩; have B8 := B7.trans (hb.mono B7.size); clear hb I5))
  go_ret
  exact ⟨rfl, B8⟩
end Go.Proofs.YtmhmpobjjhbklaaGreatDoor
