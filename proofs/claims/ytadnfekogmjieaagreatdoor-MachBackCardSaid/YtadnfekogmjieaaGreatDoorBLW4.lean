/-
  Layer 51, the laws: MachBack. (Printed by gen_lw4.py.)
-/
import Derived.Test.YtadnfekogmjieaaGreatDoorBLW3
import Derived.Test.YtadnfekogmjieaaGreatDoorBGM
import Derived.Test.YtadnfekogmjieaaGreatDoorBGP
import Derived.Test.YtadnfekogmjieaaGreatDoorBGG
import Derived.Deep.Cut
import Derived.Deep.CutRange
set_option linter.unusedVariables false
set_option linter.unusedSimpArgs false
namespace Go.Proofs.YtadnfekogmjieaaGreatDoor
open Go.RowKit
open Mc (Pl Mi Mf Th Wt Im Md)
/-- Code that a law holds in a variable. -/
structure FSt (w W : World) (K : Nat) (f : Mf) (S : Nat → Prop) (P : Option Addr) (c1 : Nat) (R : Option Addr) (c2 : Nat) (C : Option Addr) (c3 : Nat) : Prop where
  bel : Below w.heap.size w W
  var : Var W K (mfV f P c1 R c2 C c3) 39
  at_ : MfAt S W f P R C
  g0 : GlobM w
section
variable {w W W' : World} {K : Nat} {f : Mf} {S : Nat → Prop} {P R C : Option Addr} {c1 c2 c3 : Nat}
theorem FSt.step (h : FSt w W K f S P c1 R c2 C c3) (hb : Below W.heap.size W W') : FSt w W' K f S P c1 R c2 C c3 := ⟨h.bel.trans (hb.mono h.bel.size), var_keep h.var hb, h.at_.on hb, h.g0⟩
theorem FSt.glob (h : FSt w W K f S P c1 R c2 C c3) : GlobM W := h.g0.below h.bel
theorem FSt.new (h : MfAt S w f P R C) (G : GlobM w) : FSt w (w.alloc (.cells (mfV f P c1 R c2 C c3) 39)) w.heap.size f S P c1 R c2 C c3 := by
  have hb := (Below.refl w.heap.size w).alloc (Nat.le_refl _) (.cells (mfV f P c1 R c2 C c3) 39)
  exact ⟨hb, Var.new _ _ _, h.on hb, G⟩
theorem FSt.add {w1 : World} {N : Nat} (hb : Below w.heap.size w w1) (h : MfAt (fun g => N ≤ g) w1 f P R C) (G : GlobM w) : FSt w (w1.alloc (.cells (mfV f P c1 R c2 C c3) 39)) w1.heap.size f (fun g => N ≤ g) P c1 R c2 C c3 := by
  have ha := (Below.refl w1.heap.size w1).alloc (Nat.le_refl _) (.cells (mfV f P c1 R c2 C c3) 39)
  exact ⟨hb.trans (ha.mono hb.size), Var.new _ _ _, h.on ha, G⟩
end
theorem light_ok {f : Mf} (h : f.Light) (hq : ∀ x ∈ f.code, QMi x) (hs : InR f.slots) : f.Ok := by
  refine ⟨by have := h.ps; omega, by have := h.rs; omega, hs, by have := h.code; omega, fun x hx => ?_⟩
  obtain ⟨q1, q2, q3, q4, q5, q6, q7, q8, q9⟩ := hq x hx
  obtain ⟨l1, l2, l3⟩ := h.ins x hx
  exact ⟨q1, q2, q3, q4, q5, ⟨by omega, q6⟩, ⟨by omega, q7⟩, ⟨by omega, q8⟩, q9⟩
theorem ok_lists {f : Mf} (h : f.Ok) : ∀ z ∈ f.code, z.d.length ≤ 1000000 ∧ z.s.length ≤ 1000000 ∧ z.tos.length ≤ 1000000 := fun z hz => by
  obtain ⟨-, -, -, -, -, a, b, c, -⟩ := h.code.2 z hz
  exact ⟨by omega, by omega, by omega⟩
attribute [local go_sem] ByteArray.extract_mk
set_option maxHeartbeats 16000000 in
set_option maxRecDepth 100000 in
/-- MachBack. -/
theorem back_walk (f : Mf) (hq : ∀ x ∈ f.code, QMi x) (hsl : InR f.slots) (s : List UInt8) (hs : s.length ≤ 9223372036854775807) (S : Nat → Prop) (P : Option Addr) (c1 : Nat) (R : Option Addr) (c2 : Nat) (C : Option Addr) (c3 : Nat) (w : World) (G : GlobM w) (h : MfAt S w f P R C) :
    Calls Tryz.prog 6 #[.agg (mfV f P c1 R c2 C c3), .string ⟨s.toArray⟩] w fun e w' => e = .returned (.bool true) ∧ Below w.heap.size w w' := by
  have I0 := Lib.hid (FSt.new (c1 := c1) (c2 := c2) (c3 := c3) h G)
  have HL := Lib.hid (fun W (h : MfAt S W f P R C) => light_any f S P c1 R c2 C c3 W h)
  have HA := Lib.hid (fun W (G : GlobM W) => alive_any W G)
  have hsz : (ByteArray.mk s.toArray).size = s.length := by simp [ByteArray.size]
  unfold mfV at HL
  rcases hl : Mc.lightB f with _ | _
  · rw [hl] at HL
    clear hq hsl h G hl
    go_enter Tryz.func6, Tryz.ntmps6
    go_upto_region 1 with fail
    refine at_code (F := fun W => Hid (FSt w W w.heap.size f S P c1 R c2 C c3)) I0 ?_
    clear I0
    intro W I
    obtain ⟨y0, y1, y2, y3⟩ := mfV_cells I.out.var
    go_wp2_with (first
      | (go_at_call 10; (with_reducible refine (HL.out _ I.out.at_).mono ?_); rintro e w1 ⟨rfl, hb⟩; have I1 := Lib.hid (I.out.step hb); clear hb)
      | (go_at_call 11; (with_reducible refine (HA.out _ I1.out.glob).mono ?_); rintro e w2 ⟨rfl, hb⟩; have I2 := Lib.hid (I1.out.step hb); clear hb))
    go_ret
    exact ⟨rfl, I2.out.bel⟩
  rw [hl] at HL
  by_cases hs2 : s.length ≤ 2000
  case neg =>
    have p0 : (2000 : Int) < (s.length : Int) := by omega
    clear hq hsl h G hl
    go_enter Tryz.func6, Tryz.ntmps6
    go_upto_region 1 with fail
    refine at_code (F := fun W => Hid (FSt w W w.heap.size f S P c1 R c2 C c3)) I0 ?_
    clear I0
    intro W I
    obtain ⟨y0, y1, y2, y3⟩ := mfV_cells I.out.var
    go_wp2_with (first
      | (go_at_call 10; (with_reducible refine (HL.out _ I.out.at_).mono ?_); rintro e w1 ⟨rfl, hb⟩; have I1 := Lib.hid (I.out.step hb); clear hb)
      | (go_at_call 11; (with_reducible refine (HA.out _ I1.out.glob).mono ?_); rintro e w2 ⟨rfl, hb⟩; have I2 := Lib.hid (I1.out.step hb); clear hb))
    go_ret
    exact ⟨rfl, I2.out.bel⟩
  have p0 : ¬ (2000 : Int) < (s.length : Int) := by omega
  have hlt := Mc.lightB_iff.1 hl
  have hok := light_ok hlt hq hsl
  have HP := Lib.hid (fun W (G : GlobM W) (h : MfAt S W f P R C) => print_any f hok S P c1 R c2 C c3 W G h)
  have hn : ∀ x ∈ f.code, x.n < 18446744073709551616 := fun x hx => (hq x hx).n
  have HMay := Lib.hid (Mc.print_may f)
  have HPB := Lib.hid (fun hm => Mc.parse_back (f := f) hm hn)
  have HPC := Lib.hid (fun hm => Mc.parse_cut (f := f) hm hn)
  have HLN := Lib.hid (fun hm => Mc.light_print hlt hn hm)
  have HCH := Lib.hid (fun hm => Mc.cut_head (f := f) hm)
  have HSR := Lib.hid (fun (S' : Nat → Prop) P' d1 R' d2 C' d3 W (h : MfAt S W f P R C) (h' : MfAt S' W f P' R' C') => rsame_mf_any f f hok.ps hok.rs (by have := hok.code.1; omega) (ok_lists hok) S S' P c1 R c2 C c3 P' d1 R' d2 C' d3 W h h')
  have HSM := Lib.hid (fun (S' : Nat → Prop) P' d1 R' d2 C' d3 W (h : MfAt S W f P R C) (h' : MfAt S' W f P' R' C') => same_mf_any f f hok.ps hok.rs (by have := hok.code.1; omega) (ok_lists hok) S S' P c1 R c2 C c3 P' d1 R' d2 C' d3 W h h')
  rw [decide_eq_true (p := f = f) rfl] at HSR HSM
  have HPS := Lib.hid (fun W (G : GlobM W) => mparse_any s (by omega) (Nat.le_trans (Mc.split_head s) (by omega)) W G)
  have hps := Mc.parse_some s
  have HPX := Lib.hid (fun (g : Mf) (hg : g.Ok) (S' : Nat → Prop) P' d1 R' d2 C' d3 W (G : GlobM W) (h' : MfAt S' W g P' R' C') => print_any g hg S' P' d1 R' d2 C' d3 W G h')
  have HPT := Lib.hid (fun (T : List UInt8) h1 h2 W (G : GlobM W) => mparse_any T h1 h2 W G)
  obtain ⟨T, hT⟩ : ∃ T, Mc.print f = T := ⟨_, rfl⟩
  rw [hT] at HP HMay HPB HPC HLN HCH
  unfold mfV at HP HSR HSM HPX
  have HPSS := Lib.hid hps
  clear hps hT hlt hok hl hq hsl h G hn
  go_enter Tryz.func6, Tryz.ntmps6
  go_upto_region 1 with fail
  refine at_code (F := fun W => Hid (FSt w W w.heap.size f S P c1 R c2 C c3)) I0 ?_
  clear I0
  intro W I
  obtain ⟨y0, y1, y2, y3⟩ := mfV_cells I.out.var
  go_upto_region 3 with (go_at_call 10; (with_reducible refine (HL.out _ I.out.at_).mono ?_); rintro e w1 ⟨rfl, hb⟩; have I1 := Lib.hid (I.out.step hb); clear hb I y0 y1 y2 y3)
  obtain ⟨y0, y1, y2, y3⟩ := mfV_cells I1.out.var
  go_upto_if 27 with (go_at_call 14; (with_reducible refine (HP.out _ I1.out.glob I1.out.at_).mono ?_); rintro e w2 ⟨rfl, hb⟩; have I2 := Lib.hid (I1.out.step hb); clear hb I1 y0 y1 y2 y3)
  go_cut [4] from 5 (fun s4 wx => s4 = .bool false ∧ Hid (FSt w wx w.heap.size f S P c1 R c2 C c3))
  case first =>
    clear HPX HPS HPSS HA HL
    by_cases hT0 : T = []
    · have q2 : ((ByteArray.mk T.toArray) == (ByteArray.mk #[])) = true := by rw [hT0]; rfl
      have q3 : List.isEmpty T = true := by rw [hT0]; rfl
      have q4 : (T == ([] : List UInt8)) = true := by rw [hT0]; rfl
      subst hT0
      go_wp2_with fail
      go_meet
      exact ⟨rfl, I2⟩
    · have hm := HMay.out.1 hT0
      have q1 : (T == ([] : List UInt8)) = false := beq_eq_false_iff_ne.2 hT0
      have q2 : ((ByteArray.mk T.toArray) == (ByteArray.mk #[])) = false := beq_no (b := []) hT0
      have q3 : List.isEmpty T = false := by simpa using hT0
      have q5 : (!List.isEmpty T) = true := by rw [q3]; rfl
      obtain ⟨l1, l2⟩ := HLN.out hm
      have HT1 := Lib.hid (HPT.out T (by omega) (by omega))
      rw [HPB.out hm] at HT1
      obtain ⟨kc, hkc⟩ := HPC.out hm
      have hch := HCH.out hm
      obtain ⟨k, hk⟩ : ∃ k, T.length = k + 1 := ⟨T.length - 1, by have := List.length_pos_iff.2 hT0; omega⟩
      rw [hk, Nat.add_sub_cancel] at hkc hch
      have HT2 := Lib.hid (HPT.out (T.take k) (by rw [List.length_take]; omega) (by omega))
      rw [hkc] at HT2
      have hszT : (ByteArray.mk T.toArray).size = T.length := by simp [ByteArray.size]
      have hwk : IntKind.i64.wrap ((T.length : Int) - 1) = (k : Int) := by rw [IntKind.wrap_i64]; omega
      have hwk2 : wrap64 (k : Int) = (k : Int) := by unfold wrap64; omega
      have hk0 : (0 : Int) ≤ (k : Int) := by omega
      have hk1 : (k : Int) ≤ (T.length : Int) := by omega
      unfold POut at HT1 HT2
      dsimp only at HT1 HT2
      clear HMay HPB HPC HLN HCH HPT hT0 l1 l2 hkc hch hm hs2 p0
      go_upto_region 6 with (go_at_call 19; (with_reducible refine (HT1.out _ I2.out.glob).mono ?_); rintro e w3 ⟨⟨P', d1, R', d2, C', d3, rfl, hat⟩, hb⟩; have I3 := Lib.hid (I2.out.step hb); have HAT := Lib.hid hat; clear hat hb; simp only [mfV])
      refine at_code (F := fun W => Hid (FSt w W w.heap.size f S P c1 R c2 C c3) ∧ Hid (FSt w W w3.heap.size f (fun g => w2.heap.size ≤ g) P' d1 R' d2 C' d3)) ⟨Lib.hid (I3.out.step ((Below.refl _ _).alloc (Nat.le_refl _) _)), Lib.hid (FSt.add I3.out.bel HAT.out I3.out.g0)⟩ ?_
      clear I3 HAT I2
      obtain ⟨Kg, hKg⟩ : ∃ K, w3.heap.size = K := ⟨_, rfl⟩
      obtain ⟨Ng, hNg⟩ : ∃ K, w2.heap.size = K := ⟨_, rfl⟩
      simp only [hKg, hNg]
      clear hKg hNg
      rintro W4 ⟨I4, J4⟩
      obtain ⟨y0, y1, y2, y3⟩ := mfV_cells I4.out.var
      obtain ⟨z0, z1, z2, z3⟩ := mfV_cells J4.out.var
      go_upto_region 8 with (first
        | (go_at_call 17; (with_reducible refine (HSR.out _ _ _ _ _ _ _ _ I4.out.at_ J4.out.at_).mono ?_); rintro e w5 ⟨rfl, hb⟩; have I5 := Lib.hid (I4.out.step hb); have J5 := Lib.hid (J4.out.step hb); clear hb y0 y1 y2 y3 z0 z1 z2 z3; obtain ⟨y0, y1, y2, y3⟩ := mfV_cells I5.out.var; obtain ⟨z0, z1, z2, z3⟩ := mfV_cells J5.out.var)
        | (go_at_call 16; (with_reducible refine (HSM.out _ _ _ _ _ _ _ _ I5.out.at_ J5.out.at_).mono ?_); rintro e w6 ⟨rfl, hb⟩; have I6 := Lib.hid (I5.out.step hb); clear hb J5 y0 y1 y2 y3 z0 z1 z2 z3))
      go_upto_region 9 with (go_at_call 19; (with_reducible refine (HT2.out _ I6.out.glob).mono ?_); rintro e w7 ⟨⟨P7, f1, R7, f2, C7, f3, rfl, -⟩, hb⟩; have I7 := Lib.hid (I6.out.step hb); clear hb; simp only [mfV])
      refine at_code (F := fun W => Hid (FSt w W w.heap.size f S P c1 R c2 C c3)) (Lib.hid (I7.out.step ((Below.refl _ _).alloc (Nat.le_refl _) _))) ?_
      clear I7 I6 I5 I4 J4
      intro W8 I8
      go_wp2_with fail
      all_goals first
        | (go_meet; exact ⟨rfl, I8⟩)
        | (exfalso; rename_i hh; revert hh; rw [q3]; decide)
  case rest =>
  obtain ⟨rfl, I3⟩ := hcut
  clear I2 HP HSR HSM HMay HPB HPC HLN HCH HPT HL
  rcases HPSS.out with ⟨g, hg, hm, hpg, hgn⟩ | ⟨k, hk1, -, hk⟩
  · rw [hg] at HPS
    have gok := Mc.may_ok hm hgn (by rw [hpg]; omega)
    have HPG := Lib.hid (HPX.out g gok)
    rw [hpg] at HPG
    unfold POut mfV at HPS
    dsimp only at HPS
    have q1 : (s == s) = true := by simp
    clear HPSS HPX hg hm hpg hgn gok
    go_upto_region 12 with (go_at_call 19; (with_reducible refine (HPS.out _ I3.out.glob).mono ?_); rintro e w3 ⟨⟨P', d1, R', d2, C', d3, rfl, hat⟩, hb⟩; have I4 := Lib.hid (I3.out.step hb); have HAT := Lib.hid hat; clear hat hb)
    refine at_code (F := fun W => Hid (FSt w W w3.heap.size g (fun g => wc.heap.size ≤ g) P' d1 R' d2 C' d3)) (Lib.hid (FSt.add I4.out.bel HAT.out I4.out.g0)) ?_
    clear I4 HAT I3
    obtain ⟨Kg, hKg⟩ : ∃ K, w3.heap.size = K := ⟨_, rfl⟩
    obtain ⟨Ng, hNg⟩ : ∃ K, wc.heap.size = K := ⟨_, rfl⟩
    simp only [hKg, hNg]
    clear hKg hNg
    intro W4 J4
    obtain ⟨z0, z1, z2, z3⟩ := mfV_cells J4.out.var
    go_wp2_with (first
      | (go_at_call 14; (with_reducible refine (HPG.out _ _ _ _ _ _ _ _ J4.out.glob J4.out.at_).mono ?_); rintro e w5 ⟨rfl, hb⟩; have J5 := Lib.hid (J4.out.step hb); clear hb J4 z0 z1 z2 z3)
      | (go_at_call 11; (with_reducible refine (HA.out _ J5.out.glob).mono ?_); rintro e w6 ⟨rfl, hb⟩; have J6 := Lib.hid (J5.out.step hb); clear hb))
    go_ret
    exact ⟨rfl, J6.out.bel⟩
  · rw [hk] at HPS
    unfold POut mfV Mc.mf0 at HPS
    dsimp only [List.length_nil] at HPS
    have hk2 : (1 : Int) ≤ (k : Int) := by omega
    clear HPSS HPX hk
    go_upto_region 12 with (go_at_call 19; (with_reducible refine (HPS.out _ I3.out.glob).mono ?_); rintro e w3 ⟨⟨P', d1, R', d2, C', d3, rfl, -⟩, hb⟩; have I4 := Lib.hid (I3.out.step hb); clear hb)
    refine at_code (F := fun W => Hid (FSt w W w.heap.size f S P c1 R c2 C c3) ∧ Hid (Var W w3.heap.size #[.slice P' 0 d1, .slice R' 0 d2, .int .i64 0, .slice C' 0 d3] 39)) ⟨Lib.hid (I4.out.step ((Below.refl _ _).alloc (Nat.le_refl _) _)), Lib.hid (Var.new _ _ _)⟩ ?_
    clear I4 I3
    rintro W4 ⟨I4, V4⟩
    obtain ⟨⟨z0, z1, z2, z3⟩, -⟩ := cells4' V4.out
    go_wp2_with (go_at_call 11; (with_reducible refine (HA.out _ I4.out.glob).mono ?_); rintro e w6 ⟨rfl, hb⟩; have I6 := Lib.hid (I4.out.step hb); clear hb)
    go_ret
    exact ⟨rfl, I6.out.bel⟩
end Go.Proofs.YtadnfekogmjieaaGreatDoor
