/-
  Layer 51, the reference: Line, head, Print. (Printed by gen_mr5.py.)
-/
import Derived.Test.YtadnfekogmjieaaGreatDoorFGQ
import Derived.Test.YtadnfekogmjieaaGreatDoorFGK
import Derived.Test.YtadnfekogmjieaaGreatDoorFGD
import Derived.Deep.Cut
import Derived.Deep.CutRange
import Derived.Deep.RegionHeld3
set_option linter.unusedVariables false
set_option linter.unusedSimpArgs false
namespace Go.Proofs.YtadnfekogmjieaaGreatDoor
open Go.RowKit
open Mc (Pl Mi Mf)
theorem wrap_trap {z : Int} (h : 0 ≤ z ∧ z ≤ 12) : ∃ n : Nat, z = n ∧ n ≤ 12 ∧ IntKind.u64.wrap z = (n : Int) ∧ Lib.itoa z = Lib.decDigits n :=
  ⟨z.toNat, by omega, by omega, by rw [IntKind.wrap_u64]; omega, (by
    have e : Lib.itoa ((z.toNat : Nat) : Int) = Lib.decDigits z.toNat := Mc.itoa_nat _
    rwa [show ((z.toNat : Nat) : Int) = z by omega] at e)⟩
/-- Dec, what it leaves of memory. -/
theorem dec_bel (n : Nat) (w : World) (hn : n < 18446744073709551616) : Calls Tryz.prog 75 #[.int .u64 (n : Int)] w fun e w' => e = .returned (.string ⟨(Lib.decDigits n).toArray⟩) ∧ Below w.heap.size w w' :=
  (dec_all n w hn).mono fun e w' h => ⟨h.1, by obtain ⟨q, rfl⟩ := h.2; exact below_drewN _ q⟩
theorem cat_p (a b : List UInt8) (c : UInt8) : (ByteArray.mk a.toArray ++ ByteArray.mk #[c] ++ ByteArray.mk b.toArray) = ByteArray.mk (a ++ c :: b).toArray := by apply ByteArray.ext; simp
set_option maxHeartbeats 16000000 in
set_option maxRecDepth 100000 in
/-- Line. -/
theorem rline_any (x : Mi) (ht : Mc.told x = true) (hn : x.n < 18446744073709551616) (hd : x.d.length ≤ 100000) (hs : x.s.length ≤ 100000) (htl : x.tos.length ≤ 100000) (hlen : (Mc.rline x).length ≤ 10000000) (S : Nat → Prop) (D : Option Addr) (c1 : Nat) (E : Option Addr) (c2 : Nat) (T : Option Addr) (c3 : Nat) (w : World) (h : MiRd S w x D E T) :
    Calls Tryz.prog 38 #[.agg (miV x D c1 E c2 T c3)] w fun e w' => e = .returned (.string ⟨(Mc.rline x).toArray⟩) ∧ Below w.heap.size w w' := by
  obtain ⟨BODY, hB⟩ : ∃ y, Mc.rline x = y := ⟨_, rfl⟩
  rw [hB] at hlen ⊢
  unfold Mc.rline Mc.rops Mc.rplaces Mc.rtos at hB
  have TT := (Mc.told_iff x).1 ht
  obtain ⟨k, hk, hk2⟩ := TT.kind
  rw [hk] at hB
  obtain ⟨na, ea, la, wa, da⟩ := wrap_idx TT.a1
  obtain ⟨nb, eb, lb, wb, db⟩ := wrap_idx TT.b1
  obtain ⟨nt, et, lt, wt, dt⟩ := wrap_trap TT.t1
  have HB := Lib.hid ((Below.refl w.heap.size w).alloc (Nat.le_refl _) (.cells (miV x D c1 E c2 T c3) 61))
  have HV := Lib.hid (Var.new w (miV x D c1 E c2 T c3) 61)
  have HM := Lib.hid h
  have HXt := Lib.hid TT.tos
  have HO := Lib.hid (fun W => rhasOp_any (k : Int) W)
  have HA := Lib.hid (fun W => rhasA_any (k : Int) W)
  have HBB := Lib.hid (fun W => rhasB_any (k : Int) W)
  have HN := Lib.hid (fun W => rhasN_any (k : Int) W)
  have HNm := Lib.hid (fun W => rname5_any x.op W)
  have HDa := Lib.hid (fun W => dec_bel na W (by omega))
  have HDb := Lib.hid (fun W => dec_bel nb W (by omega))
  have HDn := Lib.hid (fun W => dec_bel x.n W hn)
  have HDt := Lib.hid (fun W => dec_bel nt W (by omega))
  have HDz := Lib.hid (fun (n : Nat) W (h : n ≤ 4294967295) => dec_bel n W (by omega))
  rw [da, db, dt] at hB
  obtain ⟨so, e1⟩ : ∃ q, Opc.name x.op = q := ⟨_, rfl⟩
  obtain ⟨sa, e2⟩ : ∃ q, Lib.decDigits na = q := ⟨_, rfl⟩
  obtain ⟨sb, e3⟩ : ∃ q, Lib.decDigits nb = q := ⟨_, rfl⟩
  obtain ⟨sn, e4⟩ : ∃ q, Lib.decDigits x.n = q := ⟨_, rfl⟩
  obtain ⟨st, e5⟩ : ∃ q, Lib.decDigits nt = q := ⟨_, rfl⟩
  obtain ⟨ho, g1⟩ : ∃ q, Mc.hOp (k : Int) = q := ⟨_, rfl⟩
  obtain ⟨ha, g2⟩ : ∃ q, Mc.hA (k : Int) = q := ⟨_, rfl⟩
  obtain ⟨hb, g3⟩ : ∃ q, Mc.hB (k : Int) = q := ⟨_, rfl⟩
  obtain ⟨hnn, g4⟩ : ∃ q, Mc.hN (k : Int) = q := ⟨_, rfl⟩
  obtain ⟨htr, g5⟩ : ∃ q, ((k : Int) == 23) = q := ⟨_, rfl⟩
  rw [e1] at HNm hB
  rw [e2] at HDa hB
  rw [e3] at HDb hB
  rw [e4] at HDn hB
  rw [e5] at HDt hB
  rw [g1] at HO hB
  rw [g2] at HA hB
  rw [g3] at HBB hB
  rw [g4] at HN hB
  rw [g5] at hB
  obtain ⟨pd, f1⟩ : ∃ q, Mc.rpl x.d = q := ⟨_, rfl⟩
  obtain ⟨ps, f2⟩ : ∃ q, Mc.rpl x.s = q := ⟨_, rfl⟩
  obtain ⟨P1, p1⟩ : ∃ q, (if ho then Mc.sp so else []) = q := ⟨_, rfl⟩
  obtain ⟨P2, p2⟩ : ∃ q, (if ha then Mc.sp sa else []) = q := ⟨_, rfl⟩
  obtain ⟨P3, p3⟩ : ∃ q, (if hb then Mc.sp sb else []) = q := ⟨_, rfl⟩
  obtain ⟨P4, p4⟩ : ∃ q, (if hnn then Mc.sp sn else []) = q := ⟨_, rfl⟩
  obtain ⟨P5, p5⟩ : ∃ q, (if htr then Mc.sp st else []) = q := ⟨_, rfl⟩
  rw [f1, f2, p1, p2, p3, p4, p5] at hB
  obtain ⟨P6, p6⟩ : ∃ q, (if x.d.length + x.s.length = 0 then [] else pd ++ ([32, 61] ++ ps)) = q := ⟨_, rfl⟩
  obtain ⟨P7, p7⟩ : ∃ q, (if x.tos.length = 0 then [] else ([32, 58] : List UInt8)) = q := ⟨_, rfl⟩
  obtain ⟨P8, p8⟩ : ∃ q, Mc.rto x.tos = q := ⟨_, rfl⟩
  rw [p6, p7, p8] at hB
  have hpd : x.d.length + x.s.length ≠ 0 → pd.length ≤ BODY.length ∧ ps.length ≤ BODY.length := fun hne => by
    have := congrArg List.length hB
    rw [if_neg hne] at p6
    rw [← p6] at this
    simp only [List.length_append, List.length_cons, List.length_nil] at this
    omega
  have HPD := Lib.hid (fun (hne : x.d.length + x.s.length ≠ 0) W (hb : Below w.heap.size w W) => rplaces_any x.d hd TT.d (by rw [f1]; have := (hpd hne).1; omega) S D c1 W (RdP.on h.d hb))
  have HPS := Lib.hid (fun (hne : x.d.length + x.s.length ≠ 0) W (hb : Below w.heap.size w W) => rplaces_any x.s hs TT.s (by rw [f2]; have := (hpd hne).2; omega) S E c2 W (RdP.on h.s hb))
  rw [f1] at HPD
  rw [f2] at HPS
  obtain ⟨wd, e0⟩ : ∃ q, (Mc.row (k : Int)).w = q := ⟨_, rfl⟩
  rw [e0] at hB
  have hwk : Mc.wordsL[k]'(by rw [Mc.wordsL_len]; omega) = wd := by rw [Mc.wordsL_at, e0]
  simp only [List.append_assoc] at hB
  have HB0 := Lib.hid hB
  have HP8 := Lib.hid p8
  have wna : IntKind.u64.wrap (na : Int) = (na : Int) := by rw [← ea]; exact wa.trans ea.symm
  have wnb : IntKind.u64.wrap (nb : Int) = (nb : Int) := by rw [← eb]; exact wb.trans eb.symm
  have wnt : IntKind.u64.wrap (nt : Int) = (nt : Int) := by rw [← et]; exact wt.trans et.symm
  have HEA := Lib.hid ea
  have HEB := Lib.hid eb
  have HET := Lib.hid et
  have Hg5 := Lib.hid g5
  have Hp1 := Lib.hid p1
  have Hp2 := Lib.hid p2
  have Hp3 := Lib.hid p3
  have Hp4 := Lib.hid p4
  have Hp5 := Lib.hid p5
  have Hp6 := Lib.hid p6
  have Hp7 := Lib.hid p7
  clear e0 e1 e2 e3 e4 e5 g1 g2 g3 g4 g5 f1 f2 hB TT ht da db dt hpd p8 h p1 p2 p3 p4 p5 p6 p7 ea eb et wa wb wt la lb lt
  go_enter Tryz.func38, Tryz.ntmps38
  go_upto_region 1 with fail
  refine at_code (F := fun W => Hid (Below w.heap.size w W) ∧ Hid (Var W w.heap.size (miV x D c1 E c2 T c3) 61)) ⟨HB, HV⟩ ?_
  clear HB HV
  rintro W0 ⟨B0, V0⟩
  obtain ⟨m0, m1, m2, m3, m4, m5, m6, m7, m8⟩ := miV_cells V0.out
  have hx0 : x.kind < 24 := by omega
  have hx1 : 0 ≤ x.kind := by omega
  have HK := Lib.hid hk
  have HWK := Lib.hid hwk
  clear hk hwk
  go_upto_region 3 with (go_at_call 76; with_reducible refine (rwords_any _).mono ?_; rintro e w1 ⟨⟨A, rfl, hrd⟩, hbb⟩; obtain ⟨g, o, rfl, hgl, hrc⟩ := hrd.get (i := k) (by rw [Mc.wordsL_len]; omega); have hc := hrc 0 _ rfl; have B1 := Lib.hid (B0.out.trans (hbb.mono B0.out.size)); have V1 := Lib.hid (var_keep V0.out hbb); rw [HWK.out, Nat.add_zero, Nat.mul_one] at hc; have hkk := HK.out; rw [hkk] at m0 ⊢; clear hrc hbb)
  refine at_code (F := fun W => Hid (Below w.heap.size w W) ∧ Hid (Var W w.heap.size (miV x D c1 E c2 T c3) 61)) ⟨B1, V1⟩ ?_
  clear B0 V0 B1 V1 m0 m1 m2 m3 m4 m5 m6 m7 m8 hc hgl
  rintro W ⟨B0, V0⟩
  obtain ⟨T1, hT1⟩ : ∃ q, wd ++ P1 = q := ⟨_, rfl⟩
  have HB1 : Hid (T1 ++ (P2 ++ (P3 ++ (P4 ++ (P5 ++ (P6 ++ (P7 ++ P8)))))) = BODY) := Lib.hid (by rw [← hT1, List.append_assoc]; exact HB0.out)
  have HT1 := Lib.hid hT1
  clear hT1
  have hl1 : T1.length ≤ 10000000 := by have := congrArg List.length HB1.out; rw [List.length_append] at this; omega
  obtain ⟨m0, m1, m2, m3, m4, m5, m6, m7, m8⟩ := miV_cells V0.out
  rw [HEA.out] at m2
  rw [HEB.out] at m3
  rw [HET.out] at m8
  go_upto_if 13 with (go_at_call 78; with_reducible refine (HO.out _).mono ?_; rintro e w1 ⟨rfl, rfl⟩)
  go_cut [4] from 6 (fun s4 wx => s4 = .string ⟨T1.toArray⟩ ∧ Hid (Below w.heap.size w wx) ∧ Hid (Var wx w.heap.size (miV x D c1 E c2 T c3) 61))
  case first =>
    rcases ho with _ | _
    · have e : T1 = wd := by rw [← HT1.out, ← Hp1.out]; simp
      have HEq := Lib.hid e
      clear e HT1 HB1 HB0
      go_wp2_with fail
      go_meet
      exact ⟨by rw [HEq.out], B0, V0⟩
    · have e : T1 = wd ++ 32 :: so := by rw [← HT1.out, ← Hp1.out]; rfl
      have HE : Hid (ByteArray.mk wd.toArray ++ ByteArray.mk #[32] ++ ByteArray.mk so.toArray = ByteArray.mk T1.toArray) := Lib.hid (by rw [e]; exact cat_p wd so 32)
      have hle := congrArg List.length e
      rw [List.length_append, List.length_cons] at hle
      have x3 : ¬ 9223372036854775807 < wd.length + 1 := by omega
      have x4 : ¬ 9223372036854775807 < wd.length + 1 + so.length := by omega
      clear e HT1 HB1 HB0 hle
      go_wp2_with (go_at_call 80; with_reducible refine (HNm.out _).mono ?_; rintro e w2 ⟨rfl, hbb⟩)
      go_meet
      exact ⟨congrArg Value.string HE.out, Lib.hid (B0.out.trans (hbb.mono B0.out.size)), Lib.hid (var_keep V0.out hbb)⟩
  case rest =>
  clear m0 m1 m2 m3 m4 m5 m6 m7 m8 B0 V0
  obtain ⟨rfl, B0, V0⟩ := hcut
  obtain ⟨T2, hT2⟩ : ∃ q, T1 ++ P2 = q := ⟨_, rfl⟩
  have HB2 : Hid (T2 ++ (P3 ++ (P4 ++ (P5 ++ (P6 ++ (P7 ++ P8))))) = BODY) := Lib.hid (by rw [← hT2, List.append_assoc]; exact HB1.out)
  have HT2 := Lib.hid hT2
  clear hT2
  have hl2 : T2.length ≤ 10000000 := by have := congrArg List.length HB2.out; rw [List.length_append] at this; omega
  obtain ⟨m0, m1, m2, m3, m4, m5, m6, m7, m8⟩ := miV_cells V0.out
  rw [HEA.out] at m2
  rw [HEB.out] at m3
  rw [HET.out] at m8
  go_upto_if 21 with (go_at_call 81; with_reducible refine (HA.out _).mono ?_; rintro e w1 ⟨rfl, rfl⟩)
  go_cut [4] from 6 (fun s4 wx => s4 = .string ⟨T2.toArray⟩ ∧ Hid (Below w.heap.size w wx) ∧ Hid (Var wx w.heap.size (miV x D c1 E c2 T c3) 61))
  case first =>
    rcases ha with _ | _
    · have e : T2 = T1 := by rw [← HT2.out, ← Hp2.out]; simp
      have HEq := Lib.hid e
      clear e HT2 HB2 HB0
      go_wp2_with fail
      go_meet
      exact ⟨by rw [HEq.out], B0, V0⟩
    · have e : T2 = T1 ++ 32 :: sa := by rw [← HT2.out, ← Hp2.out]; rfl
      have HE : Hid (ByteArray.mk T1.toArray ++ ByteArray.mk #[32] ++ ByteArray.mk sa.toArray = ByteArray.mk T2.toArray) := Lib.hid (by rw [e]; exact cat_p T1 sa 32)
      have hle := congrArg List.length e
      rw [List.length_append, List.length_cons] at hle
      have x3 : ¬ 9223372036854775807 < T1.length + 1 := by omega
      have x4 : ¬ 9223372036854775807 < T1.length + 1 + sa.length := by omega
      clear e HT2 HB2 HB0 hle
      go_wp2_with (go_at_call 75; (with_reducible refine (HDa.out _).mono ?_); rintro e w2 ⟨rfl, hbb⟩)
      go_meet
      exact ⟨congrArg Value.string HE.out, Lib.hid (B0.out.trans (hbb.mono B0.out.size)), Lib.hid (var_keep V0.out hbb)⟩
  case rest =>
  clear m0 m1 m2 m3 m4 m5 m6 m7 m8 B0 V0
  obtain ⟨rfl, B0, V0⟩ := hcut
  obtain ⟨T3, hT3⟩ : ∃ q, T2 ++ P3 = q := ⟨_, rfl⟩
  have HB3 : Hid (T3 ++ (P4 ++ (P5 ++ (P6 ++ (P7 ++ P8)))) = BODY) := Lib.hid (by rw [← hT3, List.append_assoc]; exact HB2.out)
  have HT3 := Lib.hid hT3
  clear hT3
  have hl3 : T3.length ≤ 10000000 := by have := congrArg List.length HB3.out; rw [List.length_append] at this; omega
  obtain ⟨m0, m1, m2, m3, m4, m5, m6, m7, m8⟩ := miV_cells V0.out
  rw [HEA.out] at m2
  rw [HEB.out] at m3
  rw [HET.out] at m8
  go_upto_if 30 with (go_at_call 82; with_reducible refine (HBB.out _).mono ?_; rintro e w1 ⟨rfl, rfl⟩)
  go_cut [4] from 6 (fun s4 wx => s4 = .string ⟨T3.toArray⟩ ∧ Hid (Below w.heap.size w wx) ∧ Hid (Var wx w.heap.size (miV x D c1 E c2 T c3) 61))
  case first =>
    rcases hb with _ | _
    · have e : T3 = T2 := by rw [← HT3.out, ← Hp3.out]; simp
      have HEq := Lib.hid e
      clear e HT3 HB3 HB0
      go_wp2_with fail
      go_meet
      exact ⟨by rw [HEq.out], B0, V0⟩
    · have e : T3 = T2 ++ 32 :: sb := by rw [← HT3.out, ← Hp3.out]; rfl
      have HE : Hid (ByteArray.mk T2.toArray ++ ByteArray.mk #[32] ++ ByteArray.mk sb.toArray = ByteArray.mk T3.toArray) := Lib.hid (by rw [e]; exact cat_p T2 sb 32)
      have hle := congrArg List.length e
      rw [List.length_append, List.length_cons] at hle
      have x3 : ¬ 9223372036854775807 < T2.length + 1 := by omega
      have x4 : ¬ 9223372036854775807 < T2.length + 1 + sb.length := by omega
      clear e HT3 HB3 HB0 hle
      go_wp2_with (go_at_call 75; (with_reducible refine (HDb.out _).mono ?_); rintro e w2 ⟨rfl, hbb⟩)
      go_meet
      exact ⟨congrArg Value.string HE.out, Lib.hid (B0.out.trans (hbb.mono B0.out.size)), Lib.hid (var_keep V0.out hbb)⟩
  case rest =>
  clear m0 m1 m2 m3 m4 m5 m6 m7 m8 B0 V0
  obtain ⟨rfl, B0, V0⟩ := hcut
  obtain ⟨T4, hT4⟩ : ∃ q, T3 ++ P4 = q := ⟨_, rfl⟩
  have HB4 : Hid (T4 ++ (P5 ++ (P6 ++ (P7 ++ P8))) = BODY) := Lib.hid (by rw [← hT4, List.append_assoc]; exact HB3.out)
  have HT4 := Lib.hid hT4
  clear hT4
  have hl4 : T4.length ≤ 10000000 := by have := congrArg List.length HB4.out; rw [List.length_append] at this; omega
  obtain ⟨m0, m1, m2, m3, m4, m5, m6, m7, m8⟩ := miV_cells V0.out
  rw [HEA.out] at m2
  rw [HEB.out] at m3
  rw [HET.out] at m8
  go_upto_if 39 with (go_at_call 83; with_reducible refine (HN.out _).mono ?_; rintro e w1 ⟨rfl, rfl⟩)
  go_cut [4] from 6 (fun s4 wx => s4 = .string ⟨T4.toArray⟩ ∧ Hid (Below w.heap.size w wx) ∧ Hid (Var wx w.heap.size (miV x D c1 E c2 T c3) 61))
  case first =>
    rcases hnn with _ | _
    · have e : T4 = T3 := by rw [← HT4.out, ← Hp4.out]; simp
      have HEq := Lib.hid e
      clear e HT4 HB4 HB0
      go_wp2_with fail
      go_meet
      exact ⟨by rw [HEq.out], B0, V0⟩
    · have e : T4 = T3 ++ 32 :: sn := by rw [← HT4.out, ← Hp4.out]; rfl
      have HE : Hid (ByteArray.mk T3.toArray ++ ByteArray.mk #[32] ++ ByteArray.mk sn.toArray = ByteArray.mk T4.toArray) := Lib.hid (by rw [e]; exact cat_p T3 sn 32)
      have hle := congrArg List.length e
      rw [List.length_append, List.length_cons] at hle
      have x3 : ¬ 9223372036854775807 < T3.length + 1 := by omega
      have x4 : ¬ 9223372036854775807 < T3.length + 1 + sn.length := by omega
      clear e HT4 HB4 HB0 hle
      go_wp2_with (go_at_call 75; (with_reducible refine (HDn.out _).mono ?_); rintro e w2 ⟨rfl, hbb⟩)
      go_meet
      exact ⟨congrArg Value.string HE.out, Lib.hid (B0.out.trans (hbb.mono B0.out.size)), Lib.hid (var_keep V0.out hbb)⟩
  case rest =>
  clear m0 m1 m2 m3 m4 m5 m6 m7 m8 B0 V0
  obtain ⟨rfl, B0, V0⟩ := hcut
  obtain ⟨T5, hT5⟩ : ∃ q, T4 ++ P5 = q := ⟨_, rfl⟩
  have HB5 : Hid (T5 ++ (P6 ++ (P7 ++ P8)) = BODY) := Lib.hid (by rw [← hT5, List.append_assoc]; exact HB4.out)
  have HT5 := Lib.hid hT5
  clear hT5
  have hl5 : T5.length ≤ 10000000 := by have := congrArg List.length HB5.out; rw [List.length_append] at this; omega
  obtain ⟨m0, m1, m2, m3, m4, m5, m6, m7, m8⟩ := miV_cells V0.out
  rw [HEA.out] at m2
  rw [HEB.out] at m3
  rw [HET.out] at m8
  have g5 := Hg5.out
  go_upto_if 47 with fail
  go_cut [4] from 6 (fun s4 wx => s4 = .string ⟨T5.toArray⟩ ∧ Hid (Below w.heap.size w wx) ∧ Hid (Var wx w.heap.size (miV x D c1 E c2 T c3) 61))
  case first =>
    rcases htr with _ | _
    · have e : T5 = T4 := by rw [← HT5.out, ← Hp5.out]; simp
      have HEq := Lib.hid e
      clear e HT5 HB5 HB0
      go_wp2_with fail
      go_meet
      exact ⟨by rw [HEq.out], B0, V0⟩
    · have e : T5 = T4 ++ 32 :: st := by rw [← HT5.out, ← Hp5.out]; rfl
      have HE : Hid (ByteArray.mk T4.toArray ++ ByteArray.mk #[32] ++ ByteArray.mk st.toArray = ByteArray.mk T5.toArray) := Lib.hid (by rw [e]; exact cat_p T4 st 32)
      have hle := congrArg List.length e
      rw [List.length_append, List.length_cons] at hle
      have x3 : ¬ 9223372036854775807 < T4.length + 1 := by omega
      have x4 : ¬ 9223372036854775807 < T4.length + 1 + st.length := by omega
      clear e HT5 HB5 HB0 hle
      go_wp2_with (go_at_call 75; (with_reducible refine (HDt.out _).mono ?_); rintro e w2 ⟨rfl, hbb⟩)
      go_meet
      exact ⟨congrArg Value.string HE.out, Lib.hid (B0.out.trans (hbb.mono B0.out.size)), Lib.hid (var_keep V0.out hbb)⟩
  case rest =>
  clear m0 m1 m2 m3 m4 m5 m6 m7 m8 B0 V0
  obtain ⟨rfl, B0, V0⟩ := hcut
  obtain ⟨T6, hT6⟩ : ∃ q, T5 ++ P6 = q := ⟨_, rfl⟩
  have HB6 : Hid (T6 ++ (P7 ++ P8) = BODY) := Lib.hid (by rw [← hT6, List.append_assoc]; exact HB5.out)
  have HT6 := Lib.hid hT6
  clear hT6
  have hl6 : T6.length ≤ 10000000 := by have := congrArg List.length HB6.out; rw [List.length_append] at this; omega
  have hws : IntKind.i64.wrap ((x.d.length : Int) + (x.s.length : Int)) = (x.d.length : Int) + (x.s.length : Int) := by rw [IntKind.wrap_i64]; omega
  obtain ⟨m0, m1, m2, m3, m4, m5, m6, m7, m8⟩ := miV_cells V0.out
  go_upto_if 62 with fail
  go_cut [4] from 6 (fun s4 wx => s4 = .string ⟨T6.toArray⟩ ∧ Hid (Below w.heap.size w wx) ∧ Hid (Var wx w.heap.size (miV x D c1 E c2 T c3) 61))
  case first =>
    by_cases hz : x.d.length + x.s.length = 0
    · have e : T6 = T5 := by rw [← HT6.out, ← Hp6.out, if_pos hz]; simp
      have x5 : ¬ (0 : Int) < (x.d.length : Int) + (x.s.length : Int) := by omega
      have x6 : (x.d.length : Int) = 0 := by omega
      have x7 : (x.s.length : Int) = 0 := by omega
      have HEq := Lib.hid e
      clear e HT6 HB6 HB0
      go_wp2_with fail
      go_meet
      exact ⟨by rw [HEq.out], B0, V0⟩
    · have e : T6 = T5 ++ (pd ++ ([32, 61] ++ ps)) := by rw [← HT6.out, ← Hp6.out, if_neg hz]
      have x5 : (0 : Int) < (x.d.length : Int) + (x.s.length : Int) := by omega
      have HE : Hid (ByteArray.mk T5.toArray ++ ByteArray.mk pd.toArray ++ ByteArray.mk #[32, 61] ++ ByteArray.mk ps.toArray = ByteArray.mk T6.toArray) := Lib.hid (by rw [e]; apply ByteArray.ext; simp)
      have hle := congrArg List.length e
      simp only [List.length_append, List.length_cons, List.length_nil] at hle
      have y3 : ¬ 9223372036854775807 < T5.length + pd.length := by omega
      have y4 : ¬ 9223372036854775807 < T5.length + pd.length + 2 := by omega
      have y5 : ¬ 9223372036854775807 < T5.length + pd.length + 2 + ps.length := by omega
      have HD1 := Lib.hid (HPD.out hz)
      have HD2 := Lib.hid (HPS.out hz)
      clear e HT6 HB6 HB0 hle HPD HPS
      go_upto_region 14 with fail
      replace B0 := Lib.hid (B0.out.trans ((show Below wc.heap.size wc (World.drew wc) from below_drewN wc 1).mono B0.out.size))
      replace V0 := Lib.hid (var_keep V0.out (show Below wc.heap.size wc (World.drew wc) from below_drewN wc 1))
      go_region_held3 (fun w' => w'.cell? ⟨w.heap.size, 5, none⟩ = some (.slice D x.d.length c1) ∧ w'.cell? ⟨w.heap.size, 6, none⟩ = some (.slice E x.s.length c2))
        (go_keep)
        (first | (go_at_call 84; first
          | ((with_reducible refine (HD1.out _ B0.out).mono ?_); clear HD1; rintro e w2 ⟨rfl, hbb⟩; replace B0 := Lib.hid (B0.out.trans (hbb.mono B0.out.size)); replace V0 := Lib.hid (var_keep V0.out hbb); clear hbb m0 m1 m2 m3 m4 m5 m6 m7 m8; obtain ⟨m0, m1, m2, m3, m4, m5, m6, m7, m8⟩ := miV_cells V0.out)
          | ((with_reducible refine (HD2.out _ B0.out).mono ?_); clear HD2; rintro e w2 ⟨rfl, hbb⟩; replace B0 := Lib.hid (B0.out.trans (hbb.mono B0.out.size)); replace V0 := Lib.hid (var_keep V0.out hbb); clear hbb m0 m1 m2 m3 m4 m5 m6 m7 m8; obtain ⟨m0, m1, m2, m3, m4, m5, m6, m7, m8⟩ := miV_cells V0.out)))
      all_goals
        go_wp2_with fail
        go_meet
        exact ⟨congrArg Value.string HE.out, B0, V0⟩
  case rest =>
  clear m0 m1 m2 m3 m4 m5 m6 m7 m8 B0 V0 hws
  obtain ⟨rfl, B0, V0⟩ := hcut
  obtain ⟨T7, hT7⟩ : ∃ q, T6 ++ P7 = q := ⟨_, rfl⟩
  have HB7 : Hid (T7 ++ P8 = BODY) := Lib.hid (by rw [← hT7, List.append_assoc]; exact HB6.out)
  have HT7 := Lib.hid hT7
  clear hT7
  have hl7 : T7.length ≤ 10000000 := by have := congrArg List.length HB7.out; rw [List.length_append] at this; omega
  obtain ⟨m0, m1, m2, m3, m4, m5, m6, m7, m8⟩ := miV_cells V0.out
  go_upto_if 76 with fail
  go_cut [4] from 6 (fun s4 wx => s4 = .string ⟨T7.toArray⟩ ∧ Hid (Below w.heap.size w wx) ∧ Hid (Var wx w.heap.size (miV x D c1 E c2 T c3) 61))
  case first =>
    by_cases hz : x.tos.length = 0
    · have e : T7 = T6 := by rw [← HT7.out, ← Hp7.out, if_pos hz]; simp
      have x5 : ¬ (0 : Int) < (x.tos.length : Int) := by omega
      have HEq := Lib.hid e
      clear e HT7 HB7 HB0
      go_wp2_with fail
      go_meet
      exact ⟨by rw [HEq.out], B0, V0⟩
    · have e : T7 = T6 ++ [32, 58] := by rw [← HT7.out, ← Hp7.out, if_neg hz]
      have x5 : (0 : Int) < (x.tos.length : Int) := by omega
      have HE : Hid (ByteArray.mk T6.toArray ++ ByteArray.mk #[32, 58] = ByteArray.mk T7.toArray) := Lib.hid (by rw [e]; apply ByteArray.ext; simp)
      have hle := congrArg List.length e
      simp only [List.length_append, List.length_cons, List.length_nil] at hle
      have y3 : ¬ 9223372036854775807 < T6.length + 2 := by omega
      clear e HT7 HB7 HB0 hle
      go_wp2_with fail
      go_meet
      exact ⟨congrArg Value.string HE.out, B0, V0⟩
  case rest =>
  clear m0 m1 m2 m3 m4 m5 m6 m7 m8 B0 V0
  obtain ⟨rfl, B0, V0⟩ := hcut
  have HL : Hid (T7 ++ Mc.rto (x.tos.drop 0) = BODY) := Lib.hid (by rw [List.drop_zero, HP8.out]; exact HB7.out)
  clear HB7 HT7 HB6 HT6 HO HA HBB HN HNm HDa HDb HDn HDt HPD HPS Hp1 Hp2 Hp3 Hp4 Hp5 Hp6 Hp7 Hg5 HB0 HB1 HB2 HB3 HB4 HB5 HP8
  go_wp2_with fail
  go_loopw [4, 5] (fun sv iv wr => ∃ (i : Nat) (U : List UInt8), iv = .int .i64 (i : Int) ∧ i ≤ x.tos.length ∧ sv = .string ⟨U.toArray⟩ ∧ Hid (U ++ Mc.rto (x.tos.drop i) = BODY) ∧ Hid (Below w.heap.size w wr) ∧ Hid (Var wr w.heap.size (miV x D c1 E c2 T c3) 61)) (fun _ iv _ => x.tos.length - (intOf iv).toNat)
  case atStart => exact ⟨0, T7, rfl, by omega, rfl, HL, B0, V0⟩
  case round =>
    clear B0 V0 HL
    obtain ⟨i, U, rfl, hi, rfl, HT, B0, V0⟩ := hrel
    obtain ⟨m0, m1, m2, m3, m4, m5, m6, m7, m8⟩ := miV_cells V0.out
    by_cases hia : i < x.tos.length
    · have x0 : (i : Int) < (x.tos.length : Int) := by omega
      have x1 : (0 : Int) ≤ (i : Int) := by omega
      obtain ⟨g, o, rfl, -, -, f0'⟩ := (RdZ.on HM.out.t B0.out).get hia
      have f0 : wr.cell? ⟨g, o + i, none⟩ = some (.int .i64 x.tos[i]) := by simpa [ZAt] using f0'
      clear f0'
      have hT := HT.out
      have hpx := HXt.out _ (List.getElem_mem hia)
      rw [List.drop_eq_getElem_cons hia] at hT
      obtain ⟨z, hp⟩ : ∃ p, x.tos[i] = p := ⟨_, rfl⟩
      rw [hp] at f0 hT hpx
      obtain ⟨n, rfl, hn2, hwz, hdz⟩ := wrap_idx hpx
      have hT' : U ++ (32 :: Lib.decDigits n ++ Mc.rto (x.tos.drop (i + 1))) = BODY := by
        rw [← hT, ← hdz]
        unfold Mc.rto Mc.sp
        simp
      have HDq := Lib.hid (fun W => HDz.out n W hn2)
      obtain ⟨s, hs2⟩ : ∃ s, Lib.decDigits n = s := ⟨_, rfl⟩
      rw [hs2] at HDq hT'
      have hll := congrArg List.length hT'
      simp only [List.length_append, List.length_cons] at hll
      have x3 : ¬ 9223372036854775807 < U.length + 1 := by omega
      have x4 : ¬ 9223372036854775807 < U.length + 1 + s.length := by omega
      have HE := Lib.hid (cat_p U s 32)
      have HT2 : Hid ((U ++ 32 :: s) ++ Mc.rto (x.tos.drop (i + 1)) = BODY) := Lib.hid (by rw [← hT']; simp)
      clear hT hT' hs2 hdz hp hll hpx HT HDz
      go_wp2_with (go_at_call 75; (with_reducible refine (HDq.out _).mono ?_); rintro e w2 ⟨rfl, hbb⟩)
      go_roundw
      case rel => exact ⟨i + 1, U ++ 32 :: s, by go_num, by omega, congrArg Value.string HE.out, HT2, Lib.hid (B0.out.trans (hbb.mono B0.out.size)), Lib.hid (var_keep V0.out hbb)⟩
      case measure => simp [intOf] <;> omega
    · have hi2 : i = x.tos.length := by omega
      have x0 : ¬ (i : Int) < (x.tos.length : Int) := by omega
      have hT := HT.out
      rw [hi2, List.drop_length] at hT
      have HT2 : Hid (U = BODY) := Lib.hid (by rw [← hT]; unfold Mc.rto; simp)
      clear hT HT hi2
      go_wp2_with fail
      go_ret
      exact ⟨by rw [HT2.out]; rfl, B0.out⟩
end Go.Proofs.YtadnfekogmjieaaGreatDoor
