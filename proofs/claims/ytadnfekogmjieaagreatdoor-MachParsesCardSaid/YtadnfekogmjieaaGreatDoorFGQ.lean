/-
  Layer 51, the reference: words, the fields of a kind, natural, unused2. (Printed by gen_mr3.py.)
  Layer 51, the reference: Told, places. (Printed by gen_mr4.py.)
-/
import Derived.Test.YtadnfekogmjieaaGreatDoorFGP
import Derived.Test.YtadnfekogmjieaaGreatDoorFGI
import Derived.Test.YtadnfekogmjieaaGreatDoorFMC5
import Derived.Test.YtadnfekogmjieaaGreatDoorFGH
import Derived.Test.YtadnfekogmjieaaGreatDoorFGC
set_option linter.unusedVariables false
set_option linter.unusedSimpArgs false
namespace Go.Proofs.YtadnfekogmjieaaGreatDoor
open Go.RowKit
open Mc (Pl Mi Mf)
def Mc.wordsL : List Mc.W := Mc.rws.map (·.w)
theorem Mc.wordsL_len : Mc.wordsL.length = 24 := rfl
theorem Mc.wordsL_at {k : Nat} (h : k < Mc.wordsL.length) : Mc.wordsL[k] = (Mc.row (k : Int)).w := by
  have hk : k < Mc.rws.length := by rw [Mc.rws_len]; exact h
  have e : Mc.row (k : Int) = Mc.rws[k] := by unfold Mc.row; simp [hk]
  rw [e]
  show (Mc.rws.map (·.w))[k]'h = _
  exact List.getElem_map _
set_option maxHeartbeats 4000000 in
set_option maxRecDepth 100000 in
/-- words. -/
theorem rwords_any (w : World) : Calls Tryz.prog 76 #[] w fun e w' => (∃ A, e = .returned (.slice A 24 24) ∧ RdS w' w'.heap.size A 1 encS Mc.wordsL) ∧ Below w.heap.size w w' := by
  go_enter Tryz.func76, Tryz.ntmps76
  go_wp2_with fail
  go_ret
  have hb := (Below.refl w.heap.size w).alloc (Nat.le_refl _) (.cells (Mc.wordsL.flatMap encS).toArray 9)
  have own := lit_own2 (enc := encS) (base := w.heap.size) (n := 24) (l := Mc.wordsL) (cs := (Mc.wordsL.flatMap encS).toArray) (e := 9) w (Nat.le_refl _) (by simp) encS_len rfl (by omega)
  exact ⟨⟨_, rfl, own_rds encS_len (by omega) own⟩, hb⟩
set_option maxHeartbeats 4000000 in
set_option maxRecDepth 100000 in
/-- hasOp. -/
theorem rhasOp_any (k : Int) (w : World) : Calls Tryz.prog 78 #[.int .i64 k] w fun e w' => e = .returned (.bool (Mc.hOp k)) ∧ w = w' := by
  unfold Mc.hOp
  rcases h0 : (k == 2) with _ | _
  case true =>
    go_enter Tryz.func78, Tryz.ntmps78
    go_wp2
    go_ret
    exact ⟨rfl, rfl⟩
  rcases h1 : (k == 3) with _ | _
  case true =>
    go_enter Tryz.func78, Tryz.ntmps78
    go_wp2
    go_ret
    exact ⟨rfl, rfl⟩
  rcases h2 : (k == 5) with _ | _
  case true =>
    go_enter Tryz.func78, Tryz.ntmps78
    go_wp2
    go_ret
    exact ⟨rfl, rfl⟩
  rcases h3 : (k == 6) with _ | _
  case true =>
    go_enter Tryz.func78, Tryz.ntmps78
    go_wp2
    go_ret
    exact ⟨rfl, rfl⟩
  rcases h4 : (k == 16) with _ | _
  case true =>
    go_enter Tryz.func78, Tryz.ntmps78
    go_wp2
    go_ret
    exact ⟨rfl, rfl⟩
  rcases h5 : (k == 17) with _ | _
  all_goals
    go_enter Tryz.func78, Tryz.ntmps78
    go_wp2
    go_ret
    exact ⟨rfl, rfl⟩
set_option maxHeartbeats 4000000 in
set_option maxRecDepth 100000 in
/-- hasA. -/
theorem rhasA_any (k : Int) (w : World) : Calls Tryz.prog 81 #[.int .i64 k] w fun e w' => e = .returned (.bool (Mc.hA k)) ∧ w = w' := by
  unfold Mc.hA
  rcases h0 : (k == 7) with _ | _
  case true =>
    go_enter Tryz.func81, Tryz.ntmps81
    go_wp2
    go_ret
    exact ⟨rfl, rfl⟩
  rcases h1 : (k == 10) with _ | _
  case true =>
    go_enter Tryz.func81, Tryz.ntmps81
    go_wp2
    go_ret
    exact ⟨rfl, rfl⟩
  rcases h2 : (k == 11) with _ | _
  case true =>
    go_enter Tryz.func81, Tryz.ntmps81
    go_wp2
    go_ret
    exact ⟨rfl, rfl⟩
  rcases h3 : (k == 12) with _ | _
  case true =>
    go_enter Tryz.func81, Tryz.ntmps81
    go_wp2
    go_ret
    exact ⟨rfl, rfl⟩
  rcases h4 : (k == 13) with _ | _
  case true =>
    go_enter Tryz.func81, Tryz.ntmps81
    go_wp2
    go_ret
    exact ⟨rfl, rfl⟩
  rcases h5 : (k == 14) with _ | _
  case true =>
    go_enter Tryz.func81, Tryz.ntmps81
    go_wp2
    go_ret
    exact ⟨rfl, rfl⟩
  rcases h6 : (k == 16) with _ | _
  case true =>
    go_enter Tryz.func81, Tryz.ntmps81
    go_wp2
    go_ret
    exact ⟨rfl, rfl⟩
  rcases h7 : (k == 17) with _ | _
  case true =>
    go_enter Tryz.func81, Tryz.ntmps81
    go_wp2
    go_ret
    exact ⟨rfl, rfl⟩
  rcases h8 : (k == 18) with _ | _
  all_goals
    go_enter Tryz.func81, Tryz.ntmps81
    go_wp2
    go_ret
    exact ⟨rfl, rfl⟩
set_option maxHeartbeats 4000000 in
set_option maxRecDepth 100000 in
/-- hasB. -/
theorem rhasB_any (k : Int) (w : World) : Calls Tryz.prog 82 #[.int .i64 k] w fun e w' => e = .returned (.bool (Mc.hB k)) ∧ w = w' := by
  unfold Mc.hB
  rcases h0 : (k == 5) with _ | _
  case true =>
    go_enter Tryz.func82, Tryz.ntmps82
    go_wp2
    go_ret
    exact ⟨rfl, rfl⟩
  rcases h1 : (k == 6) with _ | _
  case true =>
    go_enter Tryz.func82, Tryz.ntmps82
    go_wp2
    go_ret
    exact ⟨rfl, rfl⟩
  rcases h2 : (k == 7) with _ | _
  case true =>
    go_enter Tryz.func82, Tryz.ntmps82
    go_wp2
    go_ret
    exact ⟨rfl, rfl⟩
  rcases h3 : (k == 8) with _ | _
  case true =>
    go_enter Tryz.func82, Tryz.ntmps82
    go_wp2
    go_ret
    exact ⟨rfl, rfl⟩
  rcases h4 : (k == 9) with _ | _
  case true =>
    go_enter Tryz.func82, Tryz.ntmps82
    go_wp2
    go_ret
    exact ⟨rfl, rfl⟩
  rcases h5 : (k == 13) with _ | _
  case true =>
    go_enter Tryz.func82, Tryz.ntmps82
    go_wp2
    go_ret
    exact ⟨rfl, rfl⟩
  rcases h6 : (k == 16) with _ | _
  case true =>
    go_enter Tryz.func82, Tryz.ntmps82
    go_wp2
    go_ret
    exact ⟨rfl, rfl⟩
  rcases h7 : (k == 17) with _ | _
  all_goals
    go_enter Tryz.func82, Tryz.ntmps82
    go_wp2
    go_ret
    exact ⟨rfl, rfl⟩
set_option maxHeartbeats 4000000 in
set_option maxRecDepth 100000 in
/-- hasN. -/
theorem rhasN_any (k : Int) (w : World) : Calls Tryz.prog 83 #[.int .i64 k] w fun e w' => e = .returned (.bool (Mc.hN k)) ∧ w = w' := by
  unfold Mc.hN
  rcases h0 : (k == 0) with _ | _
  case true =>
    go_enter Tryz.func83, Tryz.ntmps83
    go_wp2
    go_ret
    exact ⟨rfl, rfl⟩
  rcases h1 : (k == 5) with _ | _
  case true =>
    go_enter Tryz.func83, Tryz.ntmps83
    go_wp2
    go_ret
    exact ⟨rfl, rfl⟩
  rcases h2 : (k == 6) with _ | _
  case true =>
    go_enter Tryz.func83, Tryz.ntmps83
    go_wp2
    go_ret
    exact ⟨rfl, rfl⟩
  rcases h3 : (k == 7) with _ | _
  all_goals
    go_enter Tryz.func83, Tryz.ntmps83
    go_wp2
    go_ret
    exact ⟨rfl, rfl⟩
/-- natural. -/
theorem rnatural_any (n : Int) (w : World) : Calls Tryz.prog 35 #[.int .i64 n] w fun e w' => e = .returned (.bool (Mc.index n)) ∧ w = w' := by
  unfold Mc.index Mc.within
  rcases h1 : decide (0 ≤ n) with _ | _ <;> rcases h2 : decide (n ≤ 4294967295) with _ | _
  all_goals
    go_enter Tryz.func35, Tryz.ntmps35
    go_wp2
    go_ret
    exact ⟨rfl, rfl⟩
set_option maxHeartbeats 16000000 in
set_option maxRecDepth 100000 in
/-- unused2. -/
theorem runused2_any (x : Mi) (D : Option Addr) (c1 : Nat) (E : Option Addr) (c2 : Nat) (T : Option Addr) (c3 : Nat) (w : World) :
    Calls Tryz.prog 77 #[.agg (miV x D c1 E c2 T c3)] w fun e w' => e = .returned (.bool (Mc.unused2R x)) ∧ Below w.heap.size w w' := by
  obtain ⟨R, hR⟩ : ∃ R, Mc.unused2R x = R := ⟨_, rfl⟩
  rw [hR]
  unfold Mc.unused2R at hR
  have HB := Lib.hid ((Below.refl w.heap.size w).alloc (Nat.le_refl _) (.cells (miV x D c1 E c2 T c3) 61))
  have HV := Lib.hid (Var.new w (miV x D c1 E c2 T c3) 61)
  have Ho := Lib.hid (fun W => rhasOp_any x.kind W)
  have Ha := Lib.hid (fun W => rhasA_any x.kind W)
  have Hb := Lib.hid (fun W => rhasB_any x.kind W)
  have Hn := Lib.hid (fun W => rhasN_any x.kind W)
  obtain ⟨ho, e1⟩ : ∃ q, Mc.hOp x.kind = q := ⟨_, rfl⟩
  obtain ⟨ha, e2⟩ : ∃ q, Mc.hA x.kind = q := ⟨_, rfl⟩
  obtain ⟨hb, e3⟩ : ∃ q, Mc.hB x.kind = q := ⟨_, rfl⟩
  obtain ⟨hn, e4⟩ : ∃ q, Mc.hN x.kind = q := ⟨_, rfl⟩
  rw [e1] at Ho hR
  rw [e2] at Ha hR
  rw [e3] at Hb hR
  rw [e4] at Hn hR
  have hnn : (x.n == 0) = ((x.n : Int) == 0) := by rw [Bool.eq_iff_iff]; simp <;> omega
  rw [hnn] at hR
  clear e1 e2 e3 e4 hnn
  rcases ho with _ | _; rcases z0 : (x.op == 0) with _ | _
  all_goals (try rw [z0] at hR)
  all_goals (first | (have hF : R = false := hR.symm) | (rcases ha with _ | _; rcases z1 : (x.a == 0) with _ | _))
  all_goals (try rw [z1] at hR)
  all_goals (first | (have hF : R = false := hR.symm) | (rcases hb with _ | _; rcases z2 : (x.b == 0) with _ | _))
  all_goals (try rw [z2] at hR)
  all_goals (first | (have hF : R = false := hR.symm) | (rcases hn with _ | _; rcases z3 : ((x.n : Int) == 0) with _ | _))
  all_goals (try rw [z3] at hR)
  all_goals (first | (have hF : R = false := hR.symm) | (rcases t0 : decide (0 ≤ x.trap) with _ | _))
  all_goals (try rw [t0] at hR)
  all_goals (first | (have hF : R = false := hR.symm) | (rcases t1 : decide (x.trap ≤ 12) with _ | _))
  all_goals (try rw [t1] at hR)
  all_goals (first | (have hF : R = false := hR.symm) | (rcases t2 : (x.kind == 23) with _ | _; rcases t3 : (x.trap == 0) with _ | _))
  all_goals (try rw [t2] at hR)
  all_goals (try rw [t3] at hR)
  all_goals
    have HR := Lib.hid hR
    clear hR
    go_enter Tryz.func77, Tryz.ntmps77
    go_upto_region 1 with fail
    refine at_code (F := fun W => Hid (Below w.heap.size w W) ∧ Hid (Var W w.heap.size (miV x D c1 E c2 T c3) 61)) ⟨HB, HV⟩ ?_
    rintro W ⟨B1, V1⟩
    obtain ⟨m0, m1, m2, m3, m4, m5, m6, m7, m8⟩ := miV_cells V1.out
    go_wp2_with (first
      | (go_at_call 78; with_reducible refine (Ho.out _).mono ?_; rintro e w1 ⟨rfl, rfl⟩)
      | (go_at_call 81; with_reducible refine (Ha.out _).mono ?_; rintro e w1 ⟨rfl, rfl⟩)
      | (go_at_call 82; with_reducible refine (Hb.out _).mono ?_; rintro e w1 ⟨rfl, rfl⟩)
      | (go_at_call 83; with_reducible refine (Hn.out _).mono ?_; rintro e w1 ⟨rfl, rfl⟩))
    go_ret
    exact ⟨by rw [← HR.out]; simp, B1.out⟩
end Go.Proofs.YtadnfekogmjieaaGreatDoor
set_option linter.unusedVariables false
set_option linter.unusedSimpArgs false
namespace Go.Proofs.YtadnfekogmjieaaGreatDoor
open Go.RowKit
open Mc (Pl Mi Mf)
theorem wrap_idx {z : Int} (h : Mc.index z = true) : ∃ n : Nat, z = n ∧ n ≤ 4294967295 ∧ IntKind.u64.wrap z = (n : Int) ∧ Lib.itoa z = Lib.decDigits n := by
  obtain ⟨n, rfl, hn⟩ := Mc.index_nat h
  exact ⟨n, rfl, hn, by rw [IntKind.wrap_u64]; omega, Mc.itoa_nat n⟩
theorem cat3 (a b c : List UInt8) : (ByteArray.mk a.toArray ++ ByteArray.mk b.toArray ++ ByteArray.mk c.toArray) = ByteArray.mk (a ++ b ++ c).toArray := by apply ByteArray.ext; simp
set_option maxHeartbeats 4000000 in
set_option maxRecDepth 100000 in
/-- places. -/
theorem rplaces_any (l : List Pl) (hl : l.length ≤ 100000) (hx : ∀ p ∈ l, Mc.index p.n = true) (hlen : (Mc.rpl l).length ≤ 100000000) (S : Nat → Prop) (A : Option Addr) (c : Nat) (w : World) (h : RdP w S A l) :
    Calls Tryz.prog 84 #[.slice A l.length c] w fun e w' => e = .returned (.string ⟨(Mc.rpl l).toArray⟩) ∧ Below w.heap.size w w' := by
  obtain ⟨BODY, hB⟩ : ∃ y, Mc.rpl l = y := ⟨_, rfl⟩
  rw [hB] at hlen ⊢
  have HB : Hid ([] ++ Mc.rpl (l.drop 0) = BODY) := Lib.hid (by rw [← hB]; rfl)
  have HX := Lib.hid hx
  have HD := Lib.hid (fun n W (hn : n < 18446744073709551616) => dec_all n W hn)
  clear hB hx
  go_enter Tryz.func84, Tryz.ntmps84
  go_wp2_with fail
  go_loopw [3, 4] (fun sv iv wr => ∃ (i : Nat) (T1 : List UInt8), iv = .int .i64 (i : Int) ∧ i ≤ l.length ∧ sv = .string ⟨T1.toArray⟩ ∧ Hid (T1 ++ Mc.rpl (l.drop i) = BODY) ∧ Hid (Below w.heap.size w wr)) (fun _ iv _ => l.length - (intOf iv).toNat)
  case atStart => exact ⟨0, [], rfl, by omega, rfl, HB, Lib.hid (Below.refl _ _)⟩
  case round =>
    clear HB
    obtain ⟨i, T1, rfl, hi, rfl, HT, B0⟩ := hrel
    by_cases hia : i < l.length
    · have x0 : (i : Int) < (l.length : Int) := by omega
      have x1 : (0 : Int) ≤ (i : Int) := by omega
      obtain ⟨g, o, rfl, -, -, f0, f1⟩ := (RdP.on h B0.out).get hia
      have hT := HT.out
      have hpx := HX.out _ (List.getElem_mem hia)
      rw [List.drop_eq_getElem_cons hia] at hT
      obtain ⟨p, hp⟩ : ∃ p, l[i] = p := ⟨_, rfl⟩
      rw [hp] at f0 f1 hT hpx
      obtain ⟨sl, z⟩ := p
      dsimp only at f0 f1 hpx
      obtain ⟨n, rfl, hn, hwz, hdz⟩ := wrap_idx hpx
      have hT' : T1 ++ ([32, if sl then 115 else 114] ++ Lib.decDigits n ++ Mc.rpl (l.drop (i + 1))) = BODY := by
        rw [← hT, ← hdz]
        unfold Mc.rpl Mc.sp Mc.plW
        simp
      have HDn := Lib.hid (fun W => HD.out n W (by omega))
      obtain ⟨s, hs⟩ : ∃ s, Lib.decDigits n = s := ⟨_, rfl⟩
      rw [hs] at HDn hT'
      have hll := congrArg List.length hT'
      simp only [List.length_append, List.length_cons, List.length_nil] at hll
      have x3 : ¬ 9223372036854775807 < T1.length + 2 := by omega
      have x4 : ¬ 9223372036854775807 < T1.length + 2 + s.length := by omega
      clear hT hs hdz hp hll hpx
      rcases sl with _ | _
      · have HE : Hid (ByteArray.mk T1.toArray ++ ByteArray.mk #[32, 114] ++ ByteArray.mk s.toArray = ByteArray.mk (T1 ++ [32, 114] ++ s).toArray) := Lib.hid (cat3 T1 [32, 114] s)
        have HT2 : Hid ((T1 ++ [32, 114] ++ s) ++ Mc.rpl (l.drop (i + 1)) = BODY) := Lib.hid (by rw [← hT']; simp)
        clear hT'
        go_wp2_with (go_at_call 75; refine (HDn.out _).mono ?_; rintro e w1 ⟨rfl, q, rfl⟩)
        go_roundw
        case rel => exact ⟨i + 1, T1 ++ [32, 114] ++ s, by go_num, by omega, congrArg Value.string HE.out, HT2, Lib.hid (B0.out.trans ((below_drewN _ q).mono B0.out.size))⟩
        case measure => simp [intOf] <;> omega
      · have HE : Hid (ByteArray.mk T1.toArray ++ ByteArray.mk #[32, 115] ++ ByteArray.mk s.toArray = ByteArray.mk (T1 ++ [32, 115] ++ s).toArray) := Lib.hid (cat3 T1 [32, 115] s)
        have HT2 : Hid ((T1 ++ [32, 115] ++ s) ++ Mc.rpl (l.drop (i + 1)) = BODY) := Lib.hid (by rw [← hT']; simp)
        clear hT'
        go_wp2_with (go_at_call 75; refine (HDn.out _).mono ?_; rintro e w1 ⟨rfl, q, rfl⟩)
        go_roundw
        case rel => exact ⟨i + 1, T1 ++ [32, 115] ++ s, by go_num, by omega, congrArg Value.string HE.out, HT2, Lib.hid (B0.out.trans ((below_drewN _ q).mono B0.out.size))⟩
        case measure => simp [intOf] <;> omega
    · have hi2 : i = l.length := by omega
      have x0 : ¬ (i : Int) < (l.length : Int) := by omega
      have hT := HT.out
      rw [hi2, List.drop_length] at hT
      have HT2 : Hid (T1 = BODY) := Lib.hid (by rw [← hT]; unfold Mc.rpl; simp)
      clear hT HT hi2
      go_wp2_with fail
      go_ret
      exact ⟨by rw [HT2.out]; rfl, B0.out⟩
set_option maxHeartbeats 16000000 in
set_option maxRecDepth 100000 in
/-- Told. -/
theorem rtold_any (x : Mi) (hd : x.d.length ≤ 1000000) (hs : x.s.length ≤ 1000000) (ht : x.tos.length ≤ 1000000) (S : Nat → Prop) (D : Option Addr) (c1 : Nat) (E : Option Addr) (c2 : Nat) (T : Option Addr) (c3 : Nat) (w : World) (h : MiRd S w x D E T) :
    Calls Tryz.prog 37 #[.agg (miV x D c1 E c2 T c3)] w fun e w' => e = .returned (.bool (Mc.told x)) ∧ Below w.heap.size w w' := by
  rw [← Mc.rtold_same]
  obtain ⟨R, hR⟩ : ∃ R, Mc.rtold x = R := ⟨_, rfl⟩
  rw [hR]
  unfold Mc.rtold Mc.rtoldA Mc.rtoldB at hR
  have HB := Lib.hid ((Below.refl w.heap.size w).alloc (Nat.le_refl _) (.cells (miV x D c1 E c2 T c3) 61))
  have HV := Lib.hid (Var.new w (miV x D c1 E c2 T c3) 61)
  have HM := Lib.hid h
  have HU := Lib.hid (fun W => runused2_any x D c1 E c2 T c3 W)
  have HO := Lib.hid (fun W => rhasOp_any x.kind W)
  have HKn := Lib.hid (fun W => rknown5_any x.op W)
  obtain ⟨un, e1⟩ : ∃ q, Mc.unused2R x = q := ⟨_, rfl⟩
  obtain ⟨ho, e2⟩ : ∃ q, Mc.hOp x.kind = q := ⟨_, rfl⟩
  obtain ⟨kn, e3⟩ : ∃ q, Opc.known x.op = q := ⟨_, rfl⟩
  obtain ⟨q28, e4⟩ : ∃ q, (x.op == 28) = q := ⟨_, rfl⟩
  rw [e1] at HU hR
  rw [e2] at HO hR
  rw [e3] at HKn hR
  rw [e4] at hR
  unfold miV at HU
  clear e1 e2 e3 h
  rcases n0 : decide (x.kind < 0) with _ | _
  case true =>
    rw [n0] at hR
    have HR := Lib.hid hR
    clear hR
    go_enter Tryz.func37, Tryz.ntmps37
    go_upto_region 1 with fail
    refine at_code (F := fun W => Hid (Below w.heap.size w W) ∧ Hid (Var W w.heap.size (miV x D c1 E c2 T c3) 61)) ⟨HB, HV⟩ ?_
    clear HB HV
    rintro W ⟨B1, V1⟩
    obtain ⟨m0, m1, m2, m3, m4, m5, m6, m7, m8⟩ := miV_cells V1.out
    go_wp2_with (first
      | (go_at_call 35; with_reducible refine (rnatural_any _ _).mono ?_; rintro e w1 ⟨rfl, rfl⟩)
      | (go_at_call 76; with_reducible refine (rwords_any _).mono ?_; rintro e w1 ⟨⟨A, rfl, -⟩, hb⟩; replace B1 := Lib.hid (B1.out.trans (hb.mono B1.out.size)); replace V1 := Lib.hid (var_keep V1.out hb); clear hb m0 m1 m2 m3 m4 m5 m6 m7 m8; obtain ⟨m0, m1, m2, m3, m4, m5, m6, m7, m8⟩ := miV_cells V1.out)
      | (go_at_call 77; with_reducible refine (HU.out _).mono ?_; rintro e w2 ⟨rfl, hb⟩; replace B1 := Lib.hid (B1.out.trans (hb.mono B1.out.size)); replace V1 := Lib.hid (var_keep V1.out hb); clear hb m0 m1 m2 m3 m4 m5 m6 m7 m8; obtain ⟨m0, m1, m2, m3, m4, m5, m6, m7, m8⟩ := miV_cells V1.out)
      | (go_at_call 78; with_reducible refine (HO.out _).mono ?_; rintro e w1 ⟨rfl, rfl⟩)
      | (go_at_call 79; with_reducible refine (HKn.out _).mono ?_; rintro e w3 ⟨rfl, hb⟩; replace B1 := Lib.hid (B1.out.trans (hb.mono B1.out.size)); replace V1 := Lib.hid (var_keep V1.out hb); clear hb m0 m1 m2 m3 m4 m5 m6 m7 m8; obtain ⟨m0, m1, m2, m3, m4, m5, m6, m7, m8⟩ := miV_cells V1.out))
    go_ret
    exact ⟨by rw [← HR.out]; simp, B1.out⟩
  rw [n0] at hR
  rcases n1 : decide (24 ≤ x.kind) with _ | _
  case true =>
    rw [n1] at hR
    have HR := Lib.hid hR
    clear hR
    go_enter Tryz.func37, Tryz.ntmps37
    go_upto_region 1 with fail
    refine at_code (F := fun W => Hid (Below w.heap.size w W) ∧ Hid (Var W w.heap.size (miV x D c1 E c2 T c3) 61)) ⟨HB, HV⟩ ?_
    clear HB HV
    rintro W ⟨B1, V1⟩
    obtain ⟨m0, m1, m2, m3, m4, m5, m6, m7, m8⟩ := miV_cells V1.out
    go_wp2_with (first
      | (go_at_call 35; with_reducible refine (rnatural_any _ _).mono ?_; rintro e w1 ⟨rfl, rfl⟩)
      | (go_at_call 76; with_reducible refine (rwords_any _).mono ?_; rintro e w1 ⟨⟨A, rfl, -⟩, hb⟩; replace B1 := Lib.hid (B1.out.trans (hb.mono B1.out.size)); replace V1 := Lib.hid (var_keep V1.out hb); clear hb m0 m1 m2 m3 m4 m5 m6 m7 m8; obtain ⟨m0, m1, m2, m3, m4, m5, m6, m7, m8⟩ := miV_cells V1.out)
      | (go_at_call 77; with_reducible refine (HU.out _).mono ?_; rintro e w2 ⟨rfl, hb⟩; replace B1 := Lib.hid (B1.out.trans (hb.mono B1.out.size)); replace V1 := Lib.hid (var_keep V1.out hb); clear hb m0 m1 m2 m3 m4 m5 m6 m7 m8; obtain ⟨m0, m1, m2, m3, m4, m5, m6, m7, m8⟩ := miV_cells V1.out)
      | (go_at_call 78; with_reducible refine (HO.out _).mono ?_; rintro e w1 ⟨rfl, rfl⟩)
      | (go_at_call 79; with_reducible refine (HKn.out _).mono ?_; rintro e w3 ⟨rfl, hb⟩; replace B1 := Lib.hid (B1.out.trans (hb.mono B1.out.size)); replace V1 := Lib.hid (var_keep V1.out hb); clear hb m0 m1 m2 m3 m4 m5 m6 m7 m8; obtain ⟨m0, m1, m2, m3, m4, m5, m6, m7, m8⟩ := miV_cells V1.out))
    go_ret
    exact ⟨by rw [← HR.out]; simp, B1.out⟩
  rw [n1] at hR
  rcases n2 : Mc.index x.a with _ | _
  case false =>
    rw [n2] at hR
    have HR := Lib.hid hR
    clear hR
    go_enter Tryz.func37, Tryz.ntmps37
    go_upto_region 1 with fail
    refine at_code (F := fun W => Hid (Below w.heap.size w W) ∧ Hid (Var W w.heap.size (miV x D c1 E c2 T c3) 61)) ⟨HB, HV⟩ ?_
    clear HB HV
    rintro W ⟨B1, V1⟩
    obtain ⟨m0, m1, m2, m3, m4, m5, m6, m7, m8⟩ := miV_cells V1.out
    go_wp2_with (first
      | (go_at_call 35; with_reducible refine (rnatural_any _ _).mono ?_; rintro e w1 ⟨rfl, rfl⟩)
      | (go_at_call 76; with_reducible refine (rwords_any _).mono ?_; rintro e w1 ⟨⟨A, rfl, -⟩, hb⟩; replace B1 := Lib.hid (B1.out.trans (hb.mono B1.out.size)); replace V1 := Lib.hid (var_keep V1.out hb); clear hb m0 m1 m2 m3 m4 m5 m6 m7 m8; obtain ⟨m0, m1, m2, m3, m4, m5, m6, m7, m8⟩ := miV_cells V1.out)
      | (go_at_call 77; with_reducible refine (HU.out _).mono ?_; rintro e w2 ⟨rfl, hb⟩; replace B1 := Lib.hid (B1.out.trans (hb.mono B1.out.size)); replace V1 := Lib.hid (var_keep V1.out hb); clear hb m0 m1 m2 m3 m4 m5 m6 m7 m8; obtain ⟨m0, m1, m2, m3, m4, m5, m6, m7, m8⟩ := miV_cells V1.out)
      | (go_at_call 78; with_reducible refine (HO.out _).mono ?_; rintro e w1 ⟨rfl, rfl⟩)
      | (go_at_call 79; with_reducible refine (HKn.out _).mono ?_; rintro e w3 ⟨rfl, hb⟩; replace B1 := Lib.hid (B1.out.trans (hb.mono B1.out.size)); replace V1 := Lib.hid (var_keep V1.out hb); clear hb m0 m1 m2 m3 m4 m5 m6 m7 m8; obtain ⟨m0, m1, m2, m3, m4, m5, m6, m7, m8⟩ := miV_cells V1.out))
    go_ret
    exact ⟨by rw [← HR.out]; simp, B1.out⟩
  rw [n2] at hR
  rcases n3 : Mc.index x.b with _ | _
  case false =>
    rw [n3] at hR
    have HR := Lib.hid hR
    clear hR
    go_enter Tryz.func37, Tryz.ntmps37
    go_upto_region 1 with fail
    refine at_code (F := fun W => Hid (Below w.heap.size w W) ∧ Hid (Var W w.heap.size (miV x D c1 E c2 T c3) 61)) ⟨HB, HV⟩ ?_
    clear HB HV
    rintro W ⟨B1, V1⟩
    obtain ⟨m0, m1, m2, m3, m4, m5, m6, m7, m8⟩ := miV_cells V1.out
    go_wp2_with (first
      | (go_at_call 35; with_reducible refine (rnatural_any _ _).mono ?_; rintro e w1 ⟨rfl, rfl⟩)
      | (go_at_call 76; with_reducible refine (rwords_any _).mono ?_; rintro e w1 ⟨⟨A, rfl, -⟩, hb⟩; replace B1 := Lib.hid (B1.out.trans (hb.mono B1.out.size)); replace V1 := Lib.hid (var_keep V1.out hb); clear hb m0 m1 m2 m3 m4 m5 m6 m7 m8; obtain ⟨m0, m1, m2, m3, m4, m5, m6, m7, m8⟩ := miV_cells V1.out)
      | (go_at_call 77; with_reducible refine (HU.out _).mono ?_; rintro e w2 ⟨rfl, hb⟩; replace B1 := Lib.hid (B1.out.trans (hb.mono B1.out.size)); replace V1 := Lib.hid (var_keep V1.out hb); clear hb m0 m1 m2 m3 m4 m5 m6 m7 m8; obtain ⟨m0, m1, m2, m3, m4, m5, m6, m7, m8⟩ := miV_cells V1.out)
      | (go_at_call 78; with_reducible refine (HO.out _).mono ?_; rintro e w1 ⟨rfl, rfl⟩)
      | (go_at_call 79; with_reducible refine (HKn.out _).mono ?_; rintro e w3 ⟨rfl, hb⟩; replace B1 := Lib.hid (B1.out.trans (hb.mono B1.out.size)); replace V1 := Lib.hid (var_keep V1.out hb); clear hb m0 m1 m2 m3 m4 m5 m6 m7 m8; obtain ⟨m0, m1, m2, m3, m4, m5, m6, m7, m8⟩ := miV_cells V1.out))
    go_ret
    exact ⟨by rw [← HR.out]; simp, B1.out⟩
  rw [n3] at hR
  rcases un with _ | _
  case false =>
    have HR := Lib.hid hR
    clear hR
    go_enter Tryz.func37, Tryz.ntmps37
    go_upto_region 1 with fail
    refine at_code (F := fun W => Hid (Below w.heap.size w W) ∧ Hid (Var W w.heap.size (miV x D c1 E c2 T c3) 61)) ⟨HB, HV⟩ ?_
    clear HB HV
    rintro W ⟨B1, V1⟩
    obtain ⟨m0, m1, m2, m3, m4, m5, m6, m7, m8⟩ := miV_cells V1.out
    go_wp2_with (first
      | (go_at_call 35; with_reducible refine (rnatural_any _ _).mono ?_; rintro e w1 ⟨rfl, rfl⟩)
      | (go_at_call 76; with_reducible refine (rwords_any _).mono ?_; rintro e w1 ⟨⟨A, rfl, -⟩, hb⟩; replace B1 := Lib.hid (B1.out.trans (hb.mono B1.out.size)); replace V1 := Lib.hid (var_keep V1.out hb); clear hb m0 m1 m2 m3 m4 m5 m6 m7 m8; obtain ⟨m0, m1, m2, m3, m4, m5, m6, m7, m8⟩ := miV_cells V1.out)
      | (go_at_call 77; with_reducible refine (HU.out _).mono ?_; rintro e w2 ⟨rfl, hb⟩; replace B1 := Lib.hid (B1.out.trans (hb.mono B1.out.size)); replace V1 := Lib.hid (var_keep V1.out hb); clear hb m0 m1 m2 m3 m4 m5 m6 m7 m8; obtain ⟨m0, m1, m2, m3, m4, m5, m6, m7, m8⟩ := miV_cells V1.out)
      | (go_at_call 78; with_reducible refine (HO.out _).mono ?_; rintro e w1 ⟨rfl, rfl⟩)
      | (go_at_call 79; with_reducible refine (HKn.out _).mono ?_; rintro e w3 ⟨rfl, hb⟩; replace B1 := Lib.hid (B1.out.trans (hb.mono B1.out.size)); replace V1 := Lib.hid (var_keep V1.out hb); clear hb m0 m1 m2 m3 m4 m5 m6 m7 m8; obtain ⟨m0, m1, m2, m3, m4, m5, m6, m7, m8⟩ := miV_cells V1.out))
    go_ret
    exact ⟨by rw [← HR.out]; simp, B1.out⟩
  have hcs : ho = false ∨ (ho = true ∧ kn = false) ∨ (ho = true ∧ kn = true ∧ q28 = true) ∨ (ho = true ∧ kn = true ∧ q28 = false) := by cases ho <;> cases kn <;> cases q28 <;> simp
  rcases hcs with rfl | ⟨rfl, rfl⟩ | ⟨rfl, rfl, rfl⟩ | ⟨rfl, rfl, rfl⟩
  rotate_left
  · skip
    have HR := Lib.hid hR
    clear hR
    go_enter Tryz.func37, Tryz.ntmps37
    go_upto_region 1 with fail
    refine at_code (F := fun W => Hid (Below w.heap.size w W) ∧ Hid (Var W w.heap.size (miV x D c1 E c2 T c3) 61)) ⟨HB, HV⟩ ?_
    clear HB HV
    rintro W ⟨B1, V1⟩
    obtain ⟨m0, m1, m2, m3, m4, m5, m6, m7, m8⟩ := miV_cells V1.out
    go_wp2_with (first
      | (go_at_call 35; with_reducible refine (rnatural_any _ _).mono ?_; rintro e w1 ⟨rfl, rfl⟩)
      | (go_at_call 76; with_reducible refine (rwords_any _).mono ?_; rintro e w1 ⟨⟨A, rfl, -⟩, hb⟩; replace B1 := Lib.hid (B1.out.trans (hb.mono B1.out.size)); replace V1 := Lib.hid (var_keep V1.out hb); clear hb m0 m1 m2 m3 m4 m5 m6 m7 m8; obtain ⟨m0, m1, m2, m3, m4, m5, m6, m7, m8⟩ := miV_cells V1.out)
      | (go_at_call 77; with_reducible refine (HU.out _).mono ?_; rintro e w2 ⟨rfl, hb⟩; replace B1 := Lib.hid (B1.out.trans (hb.mono B1.out.size)); replace V1 := Lib.hid (var_keep V1.out hb); clear hb m0 m1 m2 m3 m4 m5 m6 m7 m8; obtain ⟨m0, m1, m2, m3, m4, m5, m6, m7, m8⟩ := miV_cells V1.out)
      | (go_at_call 78; with_reducible refine (HO.out _).mono ?_; rintro e w1 ⟨rfl, rfl⟩)
      | (go_at_call 79; with_reducible refine (HKn.out _).mono ?_; rintro e w3 ⟨rfl, hb⟩; replace B1 := Lib.hid (B1.out.trans (hb.mono B1.out.size)); replace V1 := Lib.hid (var_keep V1.out hb); clear hb m0 m1 m2 m3 m4 m5 m6 m7 m8; obtain ⟨m0, m1, m2, m3, m4, m5, m6, m7, m8⟩ := miV_cells V1.out))
    go_ret
    exact ⟨by rw [← HR.out]; simp, B1.out⟩
  · skip
    have HR := Lib.hid hR
    clear hR
    go_enter Tryz.func37, Tryz.ntmps37
    go_upto_region 1 with fail
    refine at_code (F := fun W => Hid (Below w.heap.size w W) ∧ Hid (Var W w.heap.size (miV x D c1 E c2 T c3) 61)) ⟨HB, HV⟩ ?_
    clear HB HV
    rintro W ⟨B1, V1⟩
    obtain ⟨m0, m1, m2, m3, m4, m5, m6, m7, m8⟩ := miV_cells V1.out
    go_wp2_with (first
      | (go_at_call 35; with_reducible refine (rnatural_any _ _).mono ?_; rintro e w1 ⟨rfl, rfl⟩)
      | (go_at_call 76; with_reducible refine (rwords_any _).mono ?_; rintro e w1 ⟨⟨A, rfl, -⟩, hb⟩; replace B1 := Lib.hid (B1.out.trans (hb.mono B1.out.size)); replace V1 := Lib.hid (var_keep V1.out hb); clear hb m0 m1 m2 m3 m4 m5 m6 m7 m8; obtain ⟨m0, m1, m2, m3, m4, m5, m6, m7, m8⟩ := miV_cells V1.out)
      | (go_at_call 77; with_reducible refine (HU.out _).mono ?_; rintro e w2 ⟨rfl, hb⟩; replace B1 := Lib.hid (B1.out.trans (hb.mono B1.out.size)); replace V1 := Lib.hid (var_keep V1.out hb); clear hb m0 m1 m2 m3 m4 m5 m6 m7 m8; obtain ⟨m0, m1, m2, m3, m4, m5, m6, m7, m8⟩ := miV_cells V1.out)
      | (go_at_call 78; with_reducible refine (HO.out _).mono ?_; rintro e w1 ⟨rfl, rfl⟩)
      | (go_at_call 79; with_reducible refine (HKn.out _).mono ?_; rintro e w3 ⟨rfl, hb⟩; replace B1 := Lib.hid (B1.out.trans (hb.mono B1.out.size)); replace V1 := Lib.hid (var_keep V1.out hb); clear hb m0 m1 m2 m3 m4 m5 m6 m7 m8; obtain ⟨m0, m1, m2, m3, m4, m5, m6, m7, m8⟩ := miV_cells V1.out))
    go_ret
    exact ⟨by rw [← HR.out]; simp, B1.out⟩
  all_goals
    have HR : Hid ((((x.d.drop 0).all (fun p => Mc.index p.n) && x.s.all (fun p => Mc.index p.n)) && x.tos.all Mc.index) = R) := Lib.hid hR
    clear hR
    go_enter Tryz.func37, Tryz.ntmps37
    go_upto_region 1 with fail
    refine at_code (F := fun W => Hid (Below w.heap.size w W) ∧ Hid (Var W w.heap.size (miV x D c1 E c2 T c3) 61)) ⟨HB, HV⟩ ?_
    clear HB HV
    rintro W ⟨B1, V1⟩
    obtain ⟨m0, m1, m2, m3, m4, m5, m6, m7, m8⟩ := miV_cells V1.out
    go_upto_region 6 with (first
      | (go_at_call 35; with_reducible refine (rnatural_any _ _).mono ?_; rintro e w1 ⟨rfl, rfl⟩)
      | (go_at_call 76; with_reducible refine (rwords_any _).mono ?_; rintro e w1 ⟨⟨A, rfl, -⟩, hb⟩; replace B1 := Lib.hid (B1.out.trans (hb.mono B1.out.size)); replace V1 := Lib.hid (var_keep V1.out hb); clear hb m0 m1 m2 m3 m4 m5 m6 m7 m8; obtain ⟨m0, m1, m2, m3, m4, m5, m6, m7, m8⟩ := miV_cells V1.out)
      | (go_at_call 77; with_reducible refine (HU.out _).mono ?_; rintro e w2 ⟨rfl, hb⟩; replace B1 := Lib.hid (B1.out.trans (hb.mono B1.out.size)); replace V1 := Lib.hid (var_keep V1.out hb); clear hb m0 m1 m2 m3 m4 m5 m6 m7 m8; obtain ⟨m0, m1, m2, m3, m4, m5, m6, m7, m8⟩ := miV_cells V1.out)
      | (go_at_call 78; with_reducible refine (HO.out _).mono ?_; rintro e w1 ⟨rfl, rfl⟩)
      | (go_at_call 79; with_reducible refine (HKn.out _).mono ?_; rintro e w3 ⟨rfl, hb⟩; replace B1 := Lib.hid (B1.out.trans (hb.mono B1.out.size)); replace V1 := Lib.hid (var_keep V1.out hb); clear hb m0 m1 m2 m3 m4 m5 m6 m7 m8; obtain ⟨m0, m1, m2, m3, m4, m5, m6, m7, m8⟩ := miV_cells V1.out))
    clear HU HO HKn
    go_wp2_with fail
    go_loopw [4] (fun iv wr => ∃ i : Nat, iv = .int .i64 (i : Int) ∧ i ≤ x.d.length ∧ Hid ((((x.d.drop i).all (fun p => Mc.index p.n) && x.s.all (fun p => Mc.index p.n)) && x.tos.all Mc.index) = R) ∧ Hid (Below w.heap.size w wr) ∧ Hid (Var wr w.heap.size (miV x D c1 E c2 T c3) 61)) (fun iv _ => x.d.length - (intOf iv).toNat)
    case atStart => exact ⟨0, rfl, by omega, HR, B1, V1⟩
    case round =>
      clear HR B1 V1 m0 m1 m2 m3 m4 m5 m6 m7 m8
      obtain ⟨i, rfl, hi, HR, B1, V1⟩ := hrel
      obtain ⟨m0, m1, m2, m3, m4, m5, m6, m7, m8⟩ := miV_cells V1.out
      by_cases hia : i < x.d.length
      · have x0 : (i : Int) < (x.d.length : Int) := by omega
        have x1 : (0 : Int) ≤ (i : Int) := by omega
        have hd := HR.out
        rw [List.drop_eq_getElem_cons hia, List.all_cons] at hd
        obtain ⟨g, o, rfl, -, -, f0, f1⟩ := (RdP.on HM.out.d B1.out).get hia
        obtain ⟨p, hp⟩ : ∃ p, x.d[i] = p := ⟨_, rfl⟩
        rw [hp] at f0 f1 hd
        clear hp HR
        rcases hq : Mc.index p.n with _ | _
        · rw [hq] at hd
          have HD := Lib.hid hd
          have HQ := Lib.hid hq
          clear hd hq
          go_wp2_with (go_at_call 35; with_reducible refine (rnatural_any _ _).mono ?_; rintro e w1 ⟨rfl, rfl⟩; rw [HQ.out])
          go_ret
          exact ⟨by rw [← HD.out]; simp, B1.out⟩
        · rw [hq] at hd
          have HD : Hid ((((x.d.drop (i + 1)).all (fun p => Mc.index p.n) && x.s.all (fun p => Mc.index p.n)) && x.tos.all Mc.index) = R) := Lib.hid hd
          have HQ := Lib.hid hq
          clear hd hq
          go_wp2_with (go_at_call 35; with_reducible refine (rnatural_any _ _).mono ?_; rintro e w1 ⟨rfl, rfl⟩; rw [HQ.out])
          go_roundw
          case rel => exact ⟨i + 1, by go_num, by omega, HD, B1, V1⟩
          case measure => simp [intOf] <;> omega
      · have hi2 : i = x.d.length := by omega
        have x0 : ¬ (i : Int) < (x.d.length : Int) := by omega
        have hd := HR.out
        rw [hi2, List.drop_length, List.all_nil] at hd
        clear HR hi2
        have HR : Hid (((x.s.drop 0).all (fun p => Mc.index p.n) && x.tos.all Mc.index) = R) := Lib.hid hd
        clear hd
        go_wp2_with fail
        go_loopw [5] (fun iv wr => ∃ i : Nat, iv = .int .i64 (i : Int) ∧ i ≤ x.s.length ∧ Hid (((x.s.drop i).all (fun p => Mc.index p.n) && x.tos.all Mc.index) = R) ∧ Hid (Below w.heap.size w wr) ∧ Hid (Var wr w.heap.size (miV x D c1 E c2 T c3) 61)) (fun iv _ => x.s.length - (intOf iv).toNat)
        case atStart => exact ⟨0, rfl, by omega, HR, B1, V1⟩
        case round =>
          clear HR B1 V1 m0 m1 m2 m3 m4 m5 m6 m7 m8
          obtain ⟨i, rfl, hi, HR, B1, V1⟩ := hrel
          obtain ⟨m0, m1, m2, m3, m4, m5, m6, m7, m8⟩ := miV_cells V1.out
          by_cases hia : i < x.s.length
          · have x0 : (i : Int) < (x.s.length : Int) := by omega
            have x1 : (0 : Int) ≤ (i : Int) := by omega
            have hd := HR.out
            rw [List.drop_eq_getElem_cons hia, List.all_cons] at hd
            obtain ⟨g, o, rfl, -, -, f0, f1⟩ := (RdP.on HM.out.s B1.out).get hia
            obtain ⟨p, hp⟩ : ∃ p, x.s[i] = p := ⟨_, rfl⟩
            rw [hp] at f0 f1 hd
            clear hp HR
            rcases hq : Mc.index p.n with _ | _
            · rw [hq] at hd
              have HD := Lib.hid hd
              have HQ := Lib.hid hq
              clear hd hq
              go_wp2_with (go_at_call 35; with_reducible refine (rnatural_any _ _).mono ?_; rintro e w1 ⟨rfl, rfl⟩; rw [HQ.out])
              go_ret
              exact ⟨by rw [← HD.out]; simp, B1.out⟩
            · rw [hq] at hd
              have HD : Hid (((x.s.drop (i + 1)).all (fun p => Mc.index p.n) && x.tos.all Mc.index) = R) := Lib.hid hd
              have HQ := Lib.hid hq
              clear hd hq
              go_wp2_with (go_at_call 35; with_reducible refine (rnatural_any _ _).mono ?_; rintro e w1 ⟨rfl, rfl⟩; rw [HQ.out])
              go_roundw
              case rel => exact ⟨i + 1, by go_num, by omega, HD, B1, V1⟩
              case measure => simp [intOf] <;> omega
          · have hi2 : i = x.s.length := by omega
            have x0 : ¬ (i : Int) < (x.s.length : Int) := by omega
            have hd := HR.out
            rw [hi2, List.drop_length, List.all_nil] at hd
            clear HR hi2
            have HR : Hid ((x.tos.drop 0).all Mc.index = R) := Lib.hid hd
            clear hd
            go_wp2_with fail
            go_loopw [6] (fun iv wr => ∃ i : Nat, iv = .int .i64 (i : Int) ∧ i ≤ x.tos.length ∧ Hid ((x.tos.drop i).all Mc.index = R) ∧ Hid (Below w.heap.size w wr) ∧ Hid (Var wr w.heap.size (miV x D c1 E c2 T c3) 61)) (fun iv _ => x.tos.length - (intOf iv).toNat)
            case atStart => exact ⟨0, rfl, by omega, HR, B1, V1⟩
            case round =>
              clear HR B1 V1 m0 m1 m2 m3 m4 m5 m6 m7 m8
              obtain ⟨i, rfl, hi, HR, B1, V1⟩ := hrel
              obtain ⟨m0, m1, m2, m3, m4, m5, m6, m7, m8⟩ := miV_cells V1.out
              by_cases hia : i < x.tos.length
              · have x0 : (i : Int) < (x.tos.length : Int) := by omega
                have x1 : (0 : Int) ≤ (i : Int) := by omega
                have hd := HR.out
                rw [List.drop_eq_getElem_cons hia, List.all_cons] at hd
                obtain ⟨g, o, rfl, -, -, f0'⟩ := (RdZ.on HM.out.t B1.out).get hia
                have f0 : wr.cell? ⟨g, o + i, none⟩ = some (.int .i64 x.tos[i]) := by simpa [ZAt] using f0'
                clear f0'
                obtain ⟨p, hp⟩ : ∃ p, x.tos[i] = p := ⟨_, rfl⟩
                rw [hp] at f0 hd
                clear hp HR
                rcases hq : Mc.index p with _ | _
                · rw [hq] at hd
                  have HD := Lib.hid hd
                  have HQ := Lib.hid hq
                  clear hd hq
                  go_wp2_with (go_at_call 35; with_reducible refine (rnatural_any _ _).mono ?_; rintro e w1 ⟨rfl, rfl⟩; rw [HQ.out])
                  go_ret
                  exact ⟨by rw [← HD.out]; simp, B1.out⟩
                · rw [hq] at hd
                  have HD : Hid ((x.tos.drop (i + 1)).all Mc.index = R) := Lib.hid hd
                  have HQ := Lib.hid hq
                  clear hd hq
                  go_wp2_with (go_at_call 35; with_reducible refine (rnatural_any _ _).mono ?_; rintro e w1 ⟨rfl, rfl⟩; rw [HQ.out])
                  go_roundw
                  case rel => exact ⟨i + 1, by go_num, by omega, HD, B1, V1⟩
                  case measure => simp [intOf] <;> omega
              · have hi2 : i = x.tos.length := by omega
                have x0 : ¬ (i : Int) < (x.tos.length : Int) := by omega
                have hd := HR.out
                rw [hi2, List.drop_length, List.all_nil] at hd
                clear HR hi2
                have HD := Lib.hid hd
                clear hd
                go_wp2_with fail
                go_ret
                exact ⟨by rw [← HD.out]; rfl, B1.out⟩
end Go.Proofs.YtadnfekogmjieaaGreatDoor
