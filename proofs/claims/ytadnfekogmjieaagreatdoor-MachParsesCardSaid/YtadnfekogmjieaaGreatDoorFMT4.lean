/-
  Layer 51, the reference: read. (Printed by gen_mt4.py.)
-/
import Derived.Test.YtadnfekogmjieaaGreatDoorFGS
import Derived.Test.YtadnfekogmjieaaGreatDoorFMR5
import Derived.Test.YtadnfekogmjieaaGreatDoorFMQ5
import Derived.Test.YtadnfekogmjieaaGreatDoorFTk
import Derived.Deep.Cut
import Derived.Deep.CutRange
import Derived.Deep.RegionHeld3
set_option linter.unusedVariables false
set_option linter.unusedSimpArgs false
namespace Go.Proofs.YtadnfekogmjieaaGreatDoor
open Go.RowKit
open Mc (Pl Mi Mf)
attribute [local go_sem] ByteArray.extract_mk
theorem at_anyN {F : World → Prop} {P : Program} {ops : Array Oper} {Q : Exit → Act → World → Prop} {md : Region.Mode} {S : World → Prop} {fuel : Nat} {listed : Array Bool} {a : Act} {Wx : World} (hf : F Wx) (h : ∀ w, F w → wpAnyH P md ops Q S fuel listed a w) : wpAnyH P md ops Q S fuel listed a Wx := h _ hf
theorem opFind_rng (w : List UInt8) : 0 ≤ (Mc.opFind w).1 ∧ (Mc.opFind w).1 ≤ 100000 := by
  unfold Mc.opFind
  rcases h : Opc.seek w Opc.all with _ | op
  · simp
  · have := Mc.op_range _ (Mc.seek_mem h)
    dsimp only at this ⊢
    omega
namespace Mc
/-- The end of read. -/
def endR (s : W) (k o a b : Int) (n : Nat) (t : Int) : Option (List Pl × List Pl × List Int) → Mi × Bool
  | none => (mi0, false)
  | some z => (⟨k, o, a, b, n, z.1, z.2.1, z.2.2, t⟩, told ⟨k, o, a, b, n, z.1, z.2.1, z.2.2, t⟩ && (line ⟨k, o, a, b, n, z.1, z.2.1, z.2.2, t⟩ == s))
theorem rins_end {s : W} {k : Int} (hk : kindR ((cuts 32 s).headD []) = k) (h0 : ¬ k < 0) (l : List W) (hl : (cuts 32 s).tail = l) :
    rinsP s = endR s k (rOp (row k).op l).1 (rNum (row k).a (rOp (row k).op l).2).1 (rNum (row k).b (rNum (row k).a (rOp (row k).op l).2).2).1 (rN (row k).n (rNum (row k).b (rNum (row k).a (rOp (row k).op l).2).2).2).1
      (rNum (row k).t (rN (row k).n (rNum (row k).b (rNum (row k).a (rOp (row k).op l).2).2).2).2).1
      (restR (rNum (row k).t (rN (row k).n (rNum (row k).b (rNum (row k).a (rOp (row k).op l).2).2).2).2).2 false true [] [] []) := by
  unfold rinsP
  rw [hk, if_neg h0, hl]
  unfold readF
  dsimp only
  cases restR (rNum (row k).t (rN (row k).n (rNum (row k).b (rNum (row k).a (rOp (row k).op l).2).2).2).2).2 false true [] [] [] with
  | none => rfl
  | some z => rfl
theorem toI_in (z : Int) : InR (toI z) := by
  unfold toI InR
  rw [IntKind.wrap_i64]; omega
/-- The lists of an instruction under construction. -/
structure Lst (d s : List Pl) (t : List Int) (i : Nat) : Prop where
  n : d.length + s.length + t.length ≤ i
  d : ∀ p ∈ d, InR p.n
  s : ∀ p ∈ s, InR p.n
  t : ∀ z ∈ t, InR z
theorem Lst.nil_ (i : Nat) : Lst [] [] [] i := ⟨by simp, by simp, by simp, by simp⟩
theorem Lst.skip {d s : List Pl} {t : List Int} {i : Nat} (h : Lst d s t i) : Lst d s t (i + 1) := ⟨by have := h.n; omega, h.d, h.s, h.t⟩
theorem mem_app {α : Type} {P : α → Prop} {l : List α} {a : α} (h : ∀ x ∈ l, P x) (ha : P a) : ∀ x ∈ l ++ [a], P x := fun x hx => by
  rcases List.mem_append.1 hx with hx | hx
  · exact h x hx
  · rw [List.mem_singleton.1 hx]; exact ha
theorem Lst.addD {d s : List Pl} {t : List Int} {i : Nat} (h : Lst d s t i) {p : Pl} (hp : InR p.n) : Lst (d ++ [p]) s t (i + 1) := ⟨by have := h.n; simp; omega, mem_app h.d hp, h.s, h.t⟩
theorem Lst.addS {d s : List Pl} {t : List Int} {i : Nat} (h : Lst d s t i) {p : Pl} (hp : InR p.n) : Lst d (s ++ [p]) t (i + 1) := ⟨by have := h.n; simp; omega, h.d, mem_app h.s hp, h.t⟩
theorem Lst.addT {d s : List Pl} {t : List Int} {i : Nat} (h : Lst d s t i) {z : Int} (hz : InR z) : Lst d s (t ++ [z]) (i + 1) := ⟨by have := h.n; simp; omega, h.d, h.s, mem_app h.t hz⟩
theorem Lst.ok {d s : List Pl} {t : List Int} {i : Nat} (h : Lst d s t i) (hi : i ≤ 100000) {k o a b tr : Int} {n : Nat} (h1 : InR k) (h2 : InR o) (h3 : InR a) (h4 : InR b) (h5 : n < 18446744073709551616) (h6 : InR tr) : Mi.Ok ⟨k, o, a, b, n, d, s, t, tr⟩ := by
  have := h.n
  exact ⟨h1, h2, h3, h4, h5, ⟨by dsimp only; omega, h.d⟩, ⟨by dsimp only; omega, h.s⟩, ⟨by dsimp only; omega, h.t⟩, h6⟩
theorem headD_drop (L : List W) (i : Nat) : (L.drop i).headD [] = L.getD i [] := by
  rw [List.getD_eq_getElem?_getD, List.headD_eq_head?_getD, List.head?_drop]
end Mc
set_option maxHeartbeats 16000000 in
set_option maxRecDepth 100000 in
/-- read. -/
theorem rread_any (s : Mc.W) (hs : s.length ≤ 90000) (w : World) :
    Calls Tryz.prog 52 #[.string ⟨s.toArray⟩] w fun e w' => IOut w.heap.size (Mc.rinsP s) e w' ∧ Below w.heap.size w w' := by
  obtain ⟨i0, hi0, hz0, hz1, hz2⟩ := info_parts info_int
  obtain ⟨j0, hj0, kz0, kz1, kz2⟩ := info_parts info_place
  have HS := Lib.hid (fun W => rsplit_any s 32 (by omega) W)
  have hLl := Mc.cuts_len 32 s
  have hLw := Mc.cuts_word 32 s
  have hLn : Mc.cuts 32 s ≠ [] := Mc.cutsGo_ne 32 s []
  obtain ⟨R, hR⟩ : ∃ x, Mc.rinsP s = x := ⟨_, rfl⟩
  rw [hR]
  have HR1 := Lib.hid (fun (h : Mc.kindR ((Mc.cuts 32 s).headD []) < 0) => show Mc.rinsP s = (Mc.mi0, false) from by unfold Mc.rinsP; rw [if_pos h])
  have HR2 := Lib.hid (fun (k : Int) (hk : Mc.kindR ((Mc.cuts 32 s).headD []) = k) (h0 : ¬ k < 0) => Mc.rins_end hk h0 _ rfl)
  rw [hR] at HR1
  simp only [hR] at HR2
  obtain ⟨L, hL⟩ : ∃ x, Mc.cuts 32 s = x := ⟨_, rfl⟩
  rw [hL] at HR1 hLl hLn hLw
  simp only [hL] at HS HR2
  have hL0 : 0 < L.length := List.length_pos_iff.2 hLn
  have e0 : L.headD [] = L.getD 0 [] := Mc.headD_drop L 0
  have e1 : L.tail = L.drop 1 := by rw [List.drop_one]
  rw [e0] at HR1
  simp only [e0, e1] at HR2
  have hg0 : L.getD 0 [] = L[0] := by simp [List.getD_eq_getElem?_getD, hL0]
  rw [hg0] at HR1
  simp only [hg0] at HR2
  obtain ⟨hd, hhd⟩ : ∃ u, L[0] = u := ⟨_, rfl⟩
  rw [hhd] at HR1
  simp only [hhd] at HR2
  have HHD := Lib.hid hhd
  have HLW := Lib.hid (fun i => show (L.getD i []).length ≤ 1000000 from by
    rw [List.getD_eq_getElem?_getD]
    rcases h : L[i]? with _ | u
    · simp
    · have := hLw u (List.mem_of_getElem? h); simp; omega)
  clear hL hR hLn e0 e1 hg0 hhd hLw
  have HB0 := Lib.hid ((Below.refl w.heap.size w).alloc (Nat.le_refl _) (.cells zeroMi 61))
  have HV0 := Lib.hid (Var.new w zeroMi 61)
  have HK := Lib.hid (fun W => rkind_any hd W)
  go_enter Tryz.func52, Tryz.ntmps52
  go_upto_region 3 with (first
    | (go_at_call 50; refine (HS.out _).mono ?_; rintro e w1 ⟨⟨A0, c0, rfl, hrd⟩, hb⟩; have v1 := var_keep HV0.out hb; have b1 := HB0.out.trans (hb.mono HB0.out.size); have hk1 : w.heap.size + 1 ≤ w1.heap.size := (by have := hb.size; simp at this; omega); obtain ⟨g, o, rfl, hgb, h0⟩ := hrd.get hL0; have f0 := h0 0 _ rfl; simp only [Nat.zero_mul, Nat.add_zero] at f0; rw [HHD.out] at f0; clear hb h0)
    | (go_at_call 99; refine (HK.out _).mono ?_; rintro e w2 ⟨rfl, hb⟩))
  refine at_code (F := fun W => Hid (Below w.heap.size w W) ∧ Hid (Var W w.heap.size zeroMi 61) ∧ Hid (RdS W w1.heap.size (some ⟨g, o, none⟩) 1 encS L) ∧ w1.heap.size ≤ W.heap.size) ⟨Lib.hid (b1.trans (hb.mono b1.size)), Lib.hid (var_keep v1 hb), Lib.hid (hrd.below hb), hb.size⟩ ?_
  clear b1 v1 hrd hb f0 hgb HS HB0 HV0 HK HHD
  obtain ⟨N, hN⟩ : ∃ N, w1.heap.size = N := ⟨_, rfl⟩
  rw [hN] at hk1
  simp only [hN]
  clear hN
  rintro W ⟨HB, HV, HRD, hNW⟩
  rcases Mc.kindR_cases hd with hk | ⟨k, hk23, hk⟩
  · rw [hk]
    have HRR := Lib.hid (HR1.out (by rw [hk]; decide))
    obtain ⟨q0, q1, q2, q3, q4, q5, q6, q7, q8⟩ := cells9 (show Var W w.heap.size #[.int .i64 0, .int .i64 0, .int .i64 0, .int .i64 0, .int .u64 0, .slice none 0 0, .slice none 0 0, .slice none 0 0, .int .i64 0] 61 from HV.out)
    have hlt := HV.out.lt
    have z0 := HV.out.froz 0
    have z1 := HV.out.froz 1
    have z2 := HV.out.froz 2
    have z3 := HV.out.froz 3
    have z4 := HV.out.froz 4
    have z5 := HV.out.froz 5
    have z6 := HV.out.froz 6
    have z7 := HV.out.froz 7
    have z8 := HV.out.froz 8
    clear HR1 HR2 hk
    go_wp2_with fail
    have hp := put9 (show Var W w.heap.size #[.int .i64 0, .int .i64 0, .int .i64 0, .int .i64 0, .int .u64 0, .slice none 0 0, .slice none 0 0, .slice none 0 0, .int .i64 0] 61 from HV.out) (.int .i64 0) (.int .i64 0) (.int .i64 0) (.int .i64 0) (.int .u64 0) (.slice none 0 0) (.slice none 0 0) (.slice none 0 0) (.int .i64 0)
    refine bodyPost_ret (results_cell_row_tmp rfl _ _ w.heap.size _ _ (0, 0) _ rfl hp.1 Tryz.underlying61 rfl (by kernel_rfl)) rfl ?_
    rw [HRR.out]
    exact ⟨⟨none, 0, none, 0, none, 0, rfl, ⟨RdT.nil_, RdT.nil_, RdT.nil_⟩, Nat.le_refl _⟩, below_grown HB.out hp.2 HB.out.size (Nat.le_refl _)⟩
  rw [hk]
  have hRR := HR2.out (k : Int) hk (by omega)
  obtain ⟨t1, t2, t3, t4, t5⟩ := Mc.row_has ⟨k, by omega⟩
  dsimp only at t1 t2 t3 t4 t5
  rw [← t1, ← t2, ← t3, ← t4, ← t5] at hRR
  have HO := Lib.hid (fun W => rhasOp_any (k : Int) W)
  have HA := Lib.hid (fun W => rhasA_any (k : Int) W)
  have HBB := Lib.hid (fun W => rhasB_any (k : Int) W)
  have HNN := Lib.hid (fun W => rhasN_any (k : Int) W)
  obtain ⟨ro, g1⟩ : ∃ q, Mc.hOp (k : Int) = q := ⟨_, rfl⟩
  obtain ⟨ra, g2⟩ : ∃ q, Mc.hA (k : Int) = q := ⟨_, rfl⟩
  obtain ⟨rb, g3⟩ : ∃ q, Mc.hB (k : Int) = q := ⟨_, rfl⟩
  obtain ⟨rn, g4⟩ : ∃ q, Mc.hN (k : Int) = q := ⟨_, rfl⟩
  obtain ⟨rt, g5⟩ : ∃ q, ((k : Int) == 23) = q := ⟨_, rfl⟩
  rw [g1] at HO hRR
  rw [g2] at HA hRR
  rw [g3] at HBB hRR
  rw [g4] at HNN hRR
  rw [g5] at hRR
  have HIN := Lib.hid hRR
  have HG5 := Lib.hid g5
  have x2 : ¬ (k : Int) < 0 := by omega
  clear hRR HR1 HR2 t1 t2 t3 t4 t5 g1 g2 g3 g4 g5 hk
  have S0 : NSt w (W.alloc (.cells (miV ⟨(k : Int), 0, 0, 0, 0, [], [], [], 0⟩ none 0 none 0 none 0) 61)) w.heap.size W.heap.size (some ⟨g, o, none⟩) L ⟨(k : Int), 0, 0, 0, 0, [], [], [], 0⟩ none 0 none 0 none 0 :=
    ⟨HB.out.alloc HB.out.size _, HV.out.alloc _, (HRD.out.more hNW).lowB (Nat.le_refl _) ((Below.refl _ _).alloc (Nat.le_refl _) _), Var.new _ _ _, World.ownsRow_nil _ _ _ _, World.ownsRow_nil _ _ _ _, World.ownsRow_nil _ _ _ _, fun j hj => (by cases hj), Nat.le_refl _, HV.out.lt⟩
  have HS0 := Lib.hid S0.ex
  clear S0
  go_upto_region 6 with fail
  refine at_code (F := fun W' => NEx w W' w.heap.size W.heap.size (some ⟨g, o, none⟩) L ⟨(k : Int), 0, 0, 0, 0, [], [], [], 0⟩) HS0.out ?_
  clear HS0 HB HV HRD
  obtain ⟨Kx, hKx⟩ : ∃ K, W.heap.size = K := ⟨_, rfl⟩
  simp only [hKx]
  rw [hKx] at hNW
  clear hKx
  intro W1 S
  have hin := HIN.out
  clear HIN
  obtain ⟨rl0, hrl⟩ : ∃ x, L.drop 1 = x := ⟨_, rfl⟩
  rw [hrl] at hin
  obtain ⟨p0, hp0⟩ : ∃ p : Nat, p = 1 := ⟨_, rfl⟩
  have HP0 : Hid (rl0 = L.drop p0) := Lib.hid (by rw [hp0, hrl])
  have hq0 : p0 ≤ 1 := by omega
  rw [show (1 : Int) = (p0 : Int) by omega]
  clear hrl hp0
  obtain ⟨⟨v1, rl1⟩, ho⟩ : ∃ x, Mc.rOp ro rl0 = x := ⟨_, rfl⟩
  rw [ho] at hin
  dsimp only at hin
  have HOO := Lib.hid ho
  have HIN := Lib.hid hin
  clear ho hin
  skip
  go_upto_if 25 with (go_at_call 78; with_reducible refine (HO.out _).mono ?_; rintro e w1 ⟨rfl, rfl⟩)
  go_cut [7, 8, 9] from 13 (fun s7 s8 s9 wx => ∃ p1 : Nat, s7 = .int .i64 (p1 : Int) ∧ Hid (rl1 = L.drop p1) ∧ p1 ≤ 2 ∧ (0 ≤ v1 ∧ v1 ≤ 100000) ∧ NEx w wx w.heap.size Kx (some ⟨g, o, none⟩) L ⟨(k : Int), v1, 0, 0, 0, [], [], [], 0⟩)
  case first =>
    clear HIN
    rcases ro with _ | _
    · have h1 := HOO.out
      simp [Mc.rOp] at h1
      obtain ⟨h1, h2⟩ := h1
      subst h1 h2
      clear HOO
      have S0 := Lib.hid S
      go_wp2_with fail
      go_meet
      exact ⟨p0, rfl, HP0, by omega, by omega, S0.out⟩
    · have h1 := HOO.out
      simp only [Mc.rOp, if_true, Prod.mk.injEq] at h1
      obtain ⟨h1, h2⟩ := h1
      have HP : Hid (rl1 = L.drop (p0 + 1)) := Lib.hid (by rw [← h2, HP0.out, List.tail_drop])
      rw [HP0.out, Mc.headD_drop] at h1
      clear HOO h2
      obtain ⟨A0, a0, B0, b0, T0, d0, S0⟩ := S
      obtain ⟨hw, hhw⟩ : ∃ u, L.getD p0 [] = u := ⟨_, rfl⟩
      have hwl := HLW.out p0
      have HAt := Lib.hid (fun W (hwd : RdS W W.heap.size (some ⟨g, o, none⟩) 1 encS L) => rat_any (some ⟨g, o, none⟩) _ c0 L rfl p0 W hwd)
      rw [hhw] at h1 hwl
      simp only [hhw] at HAt
      clear hhw
      have HFi := Lib.hid (fun W => rfind5_any hw W)
      rw [found_eq hw] at HFi
      have hir := Mc.opFind_in hw
      have hrg := opFind_rng hw
      obtain ⟨⟨fo, fb⟩, hfo⟩ : ∃ x, Mc.opFind hw = x := ⟨_, rfl⟩
      rw [hfo] at HFi h1 hrg
      dsimp only at HFi h1 hrg
      subst h1
      clear hfo
      have HS0 := Lib.hid S0
      go_upto_region 9 with (first
        | (go_at_call 101; refine (HAt.out _ (S0.word (Nat.le_of_lt S0.ltx))).mono ?_; rintro e w2 ⟨rfl, rfl⟩)
        | (go_at_call 100; refine (HFi.out _).mono ?_; rintro e W3 ⟨rfl, hb⟩; have S3 := Lib.hid (S0.below hb); clear S0 HS0 hb; have q1 := (S3.out.cur.cells 1); have q0 := S3.out.cur.froz 1; have q3 := S3.out.ltx))
      go_wp2_with fail
      go_meet
      exact ⟨p0 + 1, by go_num, HP, by omega, hrg, (S3.out.setOp fo).ex⟩
  case rest =>
  clear S HOO HP0
  obtain ⟨p1, rfl, HP1, hq1, hv1, S⟩ := hcut
  have hin := HIN.out
  clear HIN
  obtain ⟨⟨v2, rl2⟩, ho⟩ : ∃ x, Mc.rNum ra rl1 = x := ⟨_, rfl⟩
  rw [ho] at hin
  dsimp only at hin
  have HOO := Lib.hid ho
  have HIN := Lib.hid hin
  clear ho hin
  skip
  go_upto_if 38 with (go_at_call 81; with_reducible refine (HA.out _).mono ?_; rintro e w1 ⟨rfl, rfl⟩)
  go_cut [7] from 13 (fun s7 wx => ∃ p2 : Nat, s7 = .int .i64 (p2 : Int) ∧ Hid (rl2 = L.drop p2) ∧ p2 ≤ 3 ∧ (∃ z, v2 = Mc.toI z) ∧ NEx w wx w.heap.size Kx (some ⟨g, o, none⟩) L ⟨(k : Int), v1, v2, 0, 0, [], [], [], 0⟩)
  case first =>
    clear HIN
    rcases ra with _ | _
    · have h1 := HOO.out
      simp [Mc.rNum] at h1
      obtain ⟨h1, h2⟩ := h1
      subst h1 h2
      clear HOO
      have S0 := Lib.hid S
      go_wp2_with fail
      go_meet
      exact ⟨p1, rfl, HP1, by omega, ⟨0, rfl⟩, S0.out⟩
    · have h1 := HOO.out
      simp only [Mc.rNum, if_true, Prod.mk.injEq] at h1
      obtain ⟨h1, h2⟩ := h1
      have HP : Hid (rl2 = L.drop (p1 + 1)) := Lib.hid (by rw [← h2, HP1.out, List.tail_drop])
      rw [HP1.out, Mc.headD_drop] at h1
      clear HOO h2
      obtain ⟨A0, a0, B0, b0, T0, d0, S0⟩ := S
      obtain ⟨hw, hhw⟩ : ∃ u, L.getD p1 [] = u := ⟨_, rfl⟩
      have hwl := HLW.out p1
      have HAt := Lib.hid (fun W (hwd : RdS W W.heap.size (some ⟨g, o, none⟩) 1 encS L) => rat_any (some ⟨g, o, none⟩) _ c0 L rfl p1 W hwd)
      rw [hhw] at h1 hwl
      simp only [hhw] at HAt
      clear hhw
      have HNum := Lib.hid (fun W => rnumber_any hw hwl W)
      obtain ⟨fo, hfo⟩ : ∃ x, Mc.rnum hw = x := ⟨_, rfl⟩
      rw [hfo] at HNum h1
      have hcv : IntKind.i64.wrap fo = v2 := h1
      have hvt : ∃ z, v2 = Mc.toI z := ⟨fo, h1.symm⟩
      clear hfo h1
      have HS0 := Lib.hid S0
      go_upto_region 13 with (first
        | (go_at_call 101; refine (HAt.out _ (S0.word (Nat.le_of_lt S0.ltx))).mono ?_; rintro e w2 ⟨rfl, rfl⟩)
        | (go_at_call 98; refine (HNum.out _).mono ?_; rintro e W3 ⟨rfl, hb⟩; have S3 := Lib.hid (S0.below hb); clear S0 HS0 hb; have q1 := (S3.out.cur.cells 2); have q0 := S3.out.cur.froz 2; have q3 := S3.out.ltx))
      go_wp2_with fail
      go_meet
      exact ⟨p1 + 1, by go_num, HP, by omega, hvt, (S3.out.setA v2).ex⟩
  case rest =>
  clear S HOO HP1
  obtain ⟨p2, rfl, HP2, hq2, hv2, S⟩ := hcut
  have hin := HIN.out
  clear HIN
  obtain ⟨⟨v3, rl3⟩, ho⟩ : ∃ x, Mc.rNum rb rl2 = x := ⟨_, rfl⟩
  rw [ho] at hin
  dsimp only at hin
  have HOO := Lib.hid ho
  have HIN := Lib.hid hin
  clear ho hin
  skip
  go_upto_if 48 with (go_at_call 82; with_reducible refine (HBB.out _).mono ?_; rintro e w1 ⟨rfl, rfl⟩)
  go_cut [7] from 13 (fun s7 wx => ∃ p3 : Nat, s7 = .int .i64 (p3 : Int) ∧ Hid (rl3 = L.drop p3) ∧ p3 ≤ 4 ∧ (∃ z, v3 = Mc.toI z) ∧ NEx w wx w.heap.size Kx (some ⟨g, o, none⟩) L ⟨(k : Int), v1, v2, v3, 0, [], [], [], 0⟩)
  case first =>
    clear HIN
    rcases rb with _ | _
    · have h1 := HOO.out
      simp [Mc.rNum] at h1
      obtain ⟨h1, h2⟩ := h1
      subst h1 h2
      clear HOO
      have S0 := Lib.hid S
      go_wp2_with fail
      go_meet
      exact ⟨p2, rfl, HP2, by omega, ⟨0, rfl⟩, S0.out⟩
    · have h1 := HOO.out
      simp only [Mc.rNum, if_true, Prod.mk.injEq] at h1
      obtain ⟨h1, h2⟩ := h1
      have HP : Hid (rl3 = L.drop (p2 + 1)) := Lib.hid (by rw [← h2, HP2.out, List.tail_drop])
      rw [HP2.out, Mc.headD_drop] at h1
      clear HOO h2
      obtain ⟨A0, a0, B0, b0, T0, d0, S0⟩ := S
      obtain ⟨hw, hhw⟩ : ∃ u, L.getD p2 [] = u := ⟨_, rfl⟩
      have hwl := HLW.out p2
      have HAt := Lib.hid (fun W (hwd : RdS W W.heap.size (some ⟨g, o, none⟩) 1 encS L) => rat_any (some ⟨g, o, none⟩) _ c0 L rfl p2 W hwd)
      rw [hhw] at h1 hwl
      simp only [hhw] at HAt
      clear hhw
      have HNum := Lib.hid (fun W => rnumber_any hw hwl W)
      obtain ⟨fo, hfo⟩ : ∃ x, Mc.rnum hw = x := ⟨_, rfl⟩
      rw [hfo] at HNum h1
      have hcv : IntKind.i64.wrap fo = v3 := h1
      have hvt : ∃ z, v3 = Mc.toI z := ⟨fo, h1.symm⟩
      clear hfo h1
      have HS0 := Lib.hid S0
      go_upto_region 16 with (first
        | (go_at_call 101; refine (HAt.out _ (S0.word (Nat.le_of_lt S0.ltx))).mono ?_; rintro e w2 ⟨rfl, rfl⟩)
        | (go_at_call 98; refine (HNum.out _).mono ?_; rintro e W3 ⟨rfl, hb⟩; have S3 := Lib.hid (S0.below hb); clear S0 HS0 hb; have q1 := (S3.out.cur.cells 3); have q0 := S3.out.cur.froz 3; have q3 := S3.out.ltx))
      go_wp2_with fail
      go_meet
      exact ⟨p2 + 1, by go_num, HP, by omega, hvt, (S3.out.setB v3).ex⟩
  case rest =>
  clear S HOO HP2
  obtain ⟨p3, rfl, HP3, hq3, hv3, S⟩ := hcut
  have hin := HIN.out
  clear HIN
  obtain ⟨⟨v4, rl4⟩, ho⟩ : ∃ x, Mc.rN rn rl3 = x := ⟨_, rfl⟩
  rw [ho] at hin
  dsimp only at hin
  have HOO := Lib.hid ho
  have HIN := Lib.hid hin
  clear ho hin
  skip
  go_upto_if 58 with (go_at_call 83; with_reducible refine (HNN.out _).mono ?_; rintro e w1 ⟨rfl, rfl⟩)
  go_cut [7] from 13 (fun s7 wx => ∃ p4 : Nat, s7 = .int .i64 (p4 : Int) ∧ Hid (rl4 = L.drop p4) ∧ p4 ≤ 5 ∧ v4 < 18446744073709551616 ∧ NEx w wx w.heap.size Kx (some ⟨g, o, none⟩) L ⟨(k : Int), v1, v2, v3, v4, [], [], [], 0⟩)
  case first =>
    clear HIN
    rcases rn with _ | _
    · have h1 := HOO.out
      simp [Mc.rN] at h1
      obtain ⟨h1, h2⟩ := h1
      subst h1 h2
      clear HOO
      have S0 := Lib.hid S
      go_wp2_with fail
      go_meet
      exact ⟨p3, rfl, HP3, by omega, by omega, S0.out⟩
    · have h1 := HOO.out
      simp only [Mc.rN, if_true, Prod.mk.injEq] at h1
      obtain ⟨h1, h2⟩ := h1
      have HP : Hid (rl4 = L.drop (p3 + 1)) := Lib.hid (by rw [← h2, HP3.out, List.tail_drop])
      rw [HP3.out, Mc.headD_drop] at h1
      clear HOO h2
      obtain ⟨A0, a0, B0, b0, T0, d0, S0⟩ := S
      obtain ⟨hw, hhw⟩ : ∃ u, L.getD p3 [] = u := ⟨_, rfl⟩
      have hwl := HLW.out p3
      have HAt := Lib.hid (fun W (hwd : RdS W W.heap.size (some ⟨g, o, none⟩) 1 encS L) => rat_any (some ⟨g, o, none⟩) _ c0 L rfl p3 W hwd)
      rw [hhw] at h1 hwl
      simp only [hhw] at HAt
      clear hhw
      have HNum := Lib.hid (fun W => rnumber_any hw hwl W)
      have hri := Mc.rnum_in hw
      obtain ⟨fo, hfo⟩ : ∃ x, Mc.rnum hw = x := ⟨_, rfl⟩
      rw [hfo] at HNum h1 hri
      obtain rfl : fo = (v4 : Int) := by omega
      have hv4 : v4 < 18446744073709551616 := by omega
      clear hfo h1 hri
      have HS0 := Lib.hid S0
      go_upto_region 19 with (first
        | (go_at_call 101; refine (HAt.out _ (S0.word (Nat.le_of_lt S0.ltx))).mono ?_; rintro e w2 ⟨rfl, rfl⟩)
        | (go_at_call 98; refine (HNum.out _).mono ?_; rintro e W3 ⟨rfl, hb⟩; have S3 := Lib.hid (S0.below hb); clear S0 HS0 hb; have q1 := (S3.out.cur.cells 4); have q0 := S3.out.cur.froz 4; have q3 := S3.out.ltx))
      go_wp2_with fail
      go_meet
      exact ⟨p3 + 1, by go_num, HP, by omega, hv4, (S3.out.setN v4).ex⟩
  case rest =>
  clear S HOO HP3
  obtain ⟨p4, rfl, HP4, hq4, hv4, S⟩ := hcut
  have hin := HIN.out
  clear HIN
  obtain ⟨⟨v5, rl5⟩, ho⟩ : ∃ x, Mc.rNum rt rl4 = x := ⟨_, rfl⟩
  rw [ho] at hin
  dsimp only at hin
  have HOO := Lib.hid ho
  have HIN := Lib.hid hin
  clear ho hin
  have g5 := HG5.out
  go_upto_if 67 with fail
  go_cut [7] from 13 (fun s7 wx => ∃ p5 : Nat, s7 = .int .i64 (p5 : Int) ∧ Hid (rl5 = L.drop p5) ∧ p5 ≤ 6 ∧ (∃ z, v5 = Mc.toI z) ∧ NEx w wx w.heap.size Kx (some ⟨g, o, none⟩) L ⟨(k : Int), v1, v2, v3, v4, [], [], [], v5⟩)
  case first =>
    clear HIN
    rcases rt with _ | _
    · have h1 := HOO.out
      simp [Mc.rNum] at h1
      obtain ⟨h1, h2⟩ := h1
      subst h1 h2
      clear HOO
      have S0 := Lib.hid S
      go_wp2_with fail
      go_meet
      exact ⟨p4, rfl, HP4, by omega, ⟨0, rfl⟩, S0.out⟩
    · have h1 := HOO.out
      simp only [Mc.rNum, if_true, Prod.mk.injEq] at h1
      obtain ⟨h1, h2⟩ := h1
      have HP : Hid (rl5 = L.drop (p4 + 1)) := Lib.hid (by rw [← h2, HP4.out, List.tail_drop])
      rw [HP4.out, Mc.headD_drop] at h1
      clear HOO h2
      obtain ⟨A0, a0, B0, b0, T0, d0, S0⟩ := S
      obtain ⟨hw, hhw⟩ : ∃ u, L.getD p4 [] = u := ⟨_, rfl⟩
      have hwl := HLW.out p4
      have HAt := Lib.hid (fun W (hwd : RdS W W.heap.size (some ⟨g, o, none⟩) 1 encS L) => rat_any (some ⟨g, o, none⟩) _ c0 L rfl p4 W hwd)
      rw [hhw] at h1 hwl
      simp only [hhw] at HAt
      clear hhw
      have HNum := Lib.hid (fun W => rnumber_any hw hwl W)
      obtain ⟨fo, hfo⟩ : ∃ x, Mc.rnum hw = x := ⟨_, rfl⟩
      rw [hfo] at HNum h1
      have hcv : IntKind.i64.wrap fo = v5 := h1
      have hvt : ∃ z, v5 = Mc.toI z := ⟨fo, h1.symm⟩
      clear hfo h1
      have HS0 := Lib.hid S0
      go_upto_region 22 with (first
        | (go_at_call 101; refine (HAt.out _ (S0.word (Nat.le_of_lt S0.ltx))).mono ?_; rintro e w2 ⟨rfl, rfl⟩)
        | (go_at_call 98; refine (HNum.out _).mono ?_; rintro e W3 ⟨rfl, hb⟩; have S3 := Lib.hid (S0.below hb); clear S0 HS0 hb; have q1 := (S3.out.cur.cells 8); have q0 := S3.out.cur.froz 8; have q3 := S3.out.ltx))
      go_wp2_with fail
      go_meet
      exact ⟨p4 + 1, by go_num, HP, by omega, hvt, (S3.out.setTrap v5).ex⟩
  case rest =>
  clear S HOO HP4
  obtain ⟨p5, rfl, HP5, hq5, hv5, S⟩ := hcut
  have hin := HIN.out
  clear HIN
  have HZ0 : Hid (R = Mc.endR s (k : Int) v1 v2 v3 v4 v5 (Mc.restR (L.drop p5) false true [] [] [])) := Lib.hid (by rw [hin, HP5.out])
  have HS5 := Lib.hid S
  clear hin S HP5
  go_upto_region 24 with fail
  go_wp2_with fail
  go_loopw [7, 10, 11, 12] (fun iv tv dv _ wr => ∃ (i : Nat) (tg ds : Bool) (D S' : List Pl) (T : List Int), iv = .int .i64 (i : Int) ∧ tv = .bool tg ∧ dv = .bool ds ∧ i ≤ L.length + 6 ∧ Hid (Mc.Lst D S' T i) ∧ Hid (NEx w wr w.heap.size Kx (some ⟨g, o, none⟩) L ⟨(k : Int), v1, v2, v3, v4, D, S', T, v5⟩) ∧ Hid (R = Mc.endR s (k : Int) v1 v2 v3 v4 v5 (Mc.restR (L.drop i) tg ds D S' T))) (fun iv _ _ _ _ => L.length + 6 - (intOf iv).toNat)
  case atStart => exact ⟨p5, false, true, [], [], [], rfl, rfl, rfl, by omega, Lib.hid (Mc.Lst.nil_ _), HS5, HZ0⟩
  case round =>
    clear HZ0 HS5
    obtain ⟨i, tg, ds, D, S', T, rfl, rfl, rfl, hi, HL, HS, HZ⟩ := hrel
    by_cases hia : i < L.length
    case neg =>
      have x0 : ¬ (i : Int) < (L.length : Int) := by omega
      have hz := HZ.out
      rw [List.drop_of_length_le (by omega), Mc.restR] at hz
      obtain ⟨A0, a0, B0, b0, T0, d0, S0⟩ := HS.out
      have hok : Mc.Mi.Ok ⟨(k : Int), v1, v2, v3, v4, D, S', T, v5⟩ := HL.out.ok (by omega) (by unfold InR; omega) (by unfold InR; omega) (by obtain ⟨z, rfl⟩ := hv2; exact Mc.toI_in z) (by obtain ⟨z, rfl⟩ := hv3; exact Mc.toI_in z) hv4 (by obtain ⟨z, rfl⟩ := hv5; exact Mc.toI_in z)
      clear HS HL HZ
      obtain ⟨x, hx⟩ : ∃ x : Mi, ⟨(k : Int), v1, v2, v3, v4, D, S', T, v5⟩ = x := ⟨_, rfl⟩
      rw [hx] at S0 hok
      have hz' : R = (x, Mc.told x && (Mc.line x == s)) := by rw [hz, ← hx]; rfl
      have l1 := hok.d.1
      have l2 := hok.s.1
      have l3 := hok.tos.1
      have HTo := Lib.hid (fun W (S : NSt w W w.heap.size Kx (some ⟨g, o, none⟩) L x A0 a0 B0 b0 T0 d0) => rtold_any x (by omega) (by omega) (by omega) (fun g => Kx + 1 ≤ g) A0 a0 B0 b0 T0 d0 W (S.rdi (Nat.le_refl _)))
      have HLi := Lib.hid (fun (ht : Mc.told x = true) W (S : NSt w W w.heap.size Kx (some ⟨g, o, none⟩) L x A0 a0 B0 b0 T0 d0) => rline_any x ht hok.n l1 l2 l3 (by rw [Mc.rline_same ht]; have := Mc.line_len hok; omega) (fun g => Kx + 1 ≤ g) A0 a0 B0 b0 T0 d0 W (S.rdi (Nat.le_refl _)))
      have HLS := Lib.hid (fun (ht : Mc.told x = true) => Mc.rline_same ht)
      clear hz hx hok l1 l2 l3
      unfold miV at HTo HLi
      have HS0 := Lib.hid S0
      clear S0 hv1 hv2 hv3 hv4 hv5
      go_upto_region 38 with fail
      refine at_code (F := fun W => Hid (NSt w W w.heap.size Kx (some ⟨g, o, none⟩) L x A0 a0 B0 b0 T0 d0)) HS0 ?_
      clear HS0
      intro W7 HS0
      obtain ⟨m0, m1, m2, m3, m4, m5, m6, m7, m8⟩ := miV_cells HS0.out.cur
      rcases htd : Mc.told x with _ | _
      · rw [htd, Bool.false_and] at hz'
        have HRR := Lib.hid hz'
        rw [htd] at HTo
        clear hz' HLi HLS
        have SD : NSt w (World.drew W7) w.heap.size Kx (some ⟨g, o, none⟩) L x A0 a0 B0 b0 T0 d0 := HS0.out.below (below_drewN W7 1)
        obtain ⟨cc0, cc1, cc2, cc3, cc4, cc5, cc6, cc7, cc8⟩ := miV_cells SD.cur
        have SS : (fun W' => W'.cell? ⟨Kx, 0, none⟩ = some (.int .i64 x.kind) ∧ W'.cell? ⟨Kx, 1, none⟩ = some (.int .i64 x.op) ∧ W'.cell? ⟨Kx, 2, none⟩ = some (.int .i64 x.a) ∧ W'.cell? ⟨Kx, 3, none⟩ = some (.int .i64 x.b) ∧ W'.cell? ⟨Kx, 4, none⟩ = some (.int .u64 (x.n : Int)) ∧ W'.cell? ⟨Kx, 5, none⟩ = some (.slice A0 x.d.length a0) ∧ W'.cell? ⟨Kx, 6, none⟩ = some (.slice B0 x.s.length b0) ∧ W'.cell? ⟨Kx, 7, none⟩ = some (.slice T0 x.tos.length d0) ∧ W'.cell? ⟨Kx, 8, none⟩ = some (.int .i64 x.trap)) (World.drew W7) := ⟨cc0, cc1, cc2, cc3, cc4, cc5, cc6, cc7, cc8⟩
        dsimp only at SS
        have hl1 := SD.l1
        have hlx := SD.ltx
        refine wp_region_held_drew (S := (fun W' => W'.cell? ⟨Kx, 0, none⟩ = some (.int .i64 x.kind) ∧ W'.cell? ⟨Kx, 1, none⟩ = some (.int .i64 x.op) ∧ W'.cell? ⟨Kx, 2, none⟩ = some (.int .i64 x.a) ∧ W'.cell? ⟨Kx, 3, none⟩ = some (.int .i64 x.b) ∧ W'.cell? ⟨Kx, 4, none⟩ = some (.int .u64 (x.n : Int)) ∧ W'.cell? ⟨Kx, 5, none⟩ = some (.slice A0 x.d.length a0) ∧ W'.cell? ⟨Kx, 6, none⟩ = some (.slice B0 x.s.length b0) ∧ W'.cell? ⟨Kx, 7, none⟩ = some (.slice T0 x.tos.length d0) ∧ W'.cell? ⟨Kx, 8, none⟩ = some (.int .i64 x.trap))) (by kernel_rfl) ?_ (fun hHeld0 => ?_)
        · first | assumption | go_keep
        refine tk (i := 0) (oi := ⟨some 135, .load 61 (.tmp 6), 61, "ref.go:427", #[], none⟩) rfl ?_; (try simp only [Act.put, List.setIfInBounds_toArray, List.set_cons_succ, List.set_cons_zero])
        refine tk (i := 1) (oi := ⟨some 136, .load 61 (.tmp 6), 61, "ref.go:427", #[], none⟩) rfl ?_; (try simp only [Act.put, List.setIfInBounds_toArray, List.set_cons_succ, List.set_cons_zero])
        refine wpAnyH_ready (rs := [2]) (by kernel_rfl) (by simp) ?_
        refine AllReadyH.cons (o := ⟨some 137, .call { callee := .value (.func 37), args := #[.tmp 136], argTypes := #[61] }, 4, "ref.go:427", #[⟨1, .data⟩], none⟩) rfl (fun K hK => ?_) AllReadyH.nil
        go_simp
        (refine (HTo.out _ SD).mono ?_; rintro e w3 ⟨rfl, hb3⟩; have S3 := SD.below hb3; obtain ⟨dd0, dd1, dd2, dd3, dd4, dd5, dd6, dd7, dd8⟩ := miV_cells S3.cur; have SS3 : (fun W' => W'.cell? ⟨Kx, 0, none⟩ = some (.int .i64 x.kind) ∧ W'.cell? ⟨Kx, 1, none⟩ = some (.int .i64 x.op) ∧ W'.cell? ⟨Kx, 2, none⟩ = some (.int .i64 x.a) ∧ W'.cell? ⟨Kx, 3, none⟩ = some (.int .i64 x.b) ∧ W'.cell? ⟨Kx, 4, none⟩ = some (.int .u64 (x.n : Int)) ∧ W'.cell? ⟨Kx, 5, none⟩ = some (.slice A0 x.d.length a0) ∧ W'.cell? ⟨Kx, 6, none⟩ = some (.slice B0 x.s.length b0) ∧ W'.cell? ⟨Kx, 7, none⟩ = some (.slice T0 x.tos.length d0) ∧ W'.cell? ⟨Kx, 8, none⟩ = some (.int .i64 x.trap)) w3 := ⟨dd0, dd1, dd2, dd3, dd4, dd5, dd6, dd7, dd8⟩; dsimp only at SS3; clear hb3)
        (try dsimp only)
        refine hK.out _ _ ?_ (fun hHeld1 => ?_)
        · first | trivial | ((try dsimp only); first | assumption | trivial | go_keep)
        clear hK K hHeld0
        (try simp only [Act.put, List.setIfInBounds_toArray, List.set_cons_succ, List.set_cons_zero])
        refine tk (i := 3) (oi := ⟨some 138, .move (.tmp 137), 4, "ref.go:427", #[⟨2, .data⟩, ⟨2, .chain⟩], none⟩) rfl ?_; (try simp only [Act.put, List.setIfInBounds_toArray, List.set_cons_succ, List.set_cons_zero])
        refine tkN (i := 4) (oi := ⟨some 139, .load 61 (.tmp 6), 61, "ref.go:427", #[⟨3, .guard⟩], some (3, true)⟩) rfl ?_; (try simp only [Act.put, List.setIfInBounds_toArray, List.set_cons_succ, List.set_cons_zero])
        refine tkN (i := 5) (oi := ⟨some 140, .call { callee := .value (.func 38), args := #[.tmp 139], argTypes := #[61] }, 9, "ref.go:427", #[⟨4, .data⟩, ⟨3, .chain⟩, ⟨3, .guard⟩], some (3, true)⟩) rfl ?_; (try simp only [Act.put, List.setIfInBounds_toArray, List.set_cons_succ, List.set_cons_zero])
        refine tkN (i := 6) (oi := ⟨some 141, .move (.tmp 0), 9, "ref.go:427", #[⟨3, .guard⟩, { on := 9, ground := .gcOnly Go.Departure.lateStores }], some (3, true)⟩) rfl ?_; (try simp only [Act.put, List.setIfInBounds_toArray, List.set_cons_succ, List.set_cons_zero])
        refine tkN (i := 7) (oi := ⟨some 142, .binOp .eql 9 (.tmp 140) (.tmp 141) 9, 4, "ref.go:427", #[⟨5, .data⟩, ⟨6, .data⟩, ⟨3, .guard⟩, { on := 9, ground := .gcOnly Go.Departure.lateStores }], some (3, true)⟩) rfl ?_; (try simp only [Act.put, List.setIfInBounds_toArray, List.set_cons_succ, List.set_cons_zero])
        refine tk (i := 8) (oi := ⟨some 143, .pick (.tmp 138) (.tmp 142) (.const (.bool false)), 4, "ref.go:427", #[⟨3, .data⟩, ⟨7, .data⟩, { on := 9, ground := .gcOnly Go.Departure.lateStores }], none⟩) rfl ?_; (try simp only [Act.put, List.setIfInBounds_toArray, List.set_cons_succ, List.set_cons_zero])
        refine wpAnyH_ready (rs := [9]) (by kernel_rfl) (by simp) ?_
        refine AllReadyH.cons (o := ⟨none, .store 61 (.tmp 2) (.tmp 135), 0, "ref.go:427", #[⟨0, .data⟩, ⟨5, .chain⟩, ⟨0, .phase⟩, { on := 1, ground := .textOnly Go.Departure.lateStores }, { on := 2, ground := .textOnly Go.Departure.lateStoresUnsure }, { on := 3, ground := .textOnly Go.Departure.lateStores }, { on := 4, ground := .textOnly Go.Departure.lateStores }, { on := 5, ground := .textOnly Go.Departure.lateStoresUnsure }, { on := 6, ground := .textOnly Go.Departure.lateStores }, { on := 7, ground := .textOnly Go.Departure.lateStores }, { on := 8, ground := .textOnly Go.Departure.lateStores }], none⟩) rfl (fun K hK => ?_) AllReadyH.nil
        (rw [if_pos (by rfl)]; refine wp_store_row 61 (.tmp 2) (.tmp 135) rfl w.heap.size #[.int .i64 x.kind, .int .i64 x.op, .int .i64 x.a, .int .i64 x.b, .int .u64 (x.n : Int), .slice A0 x.d.length a0, .slice B0 x.s.length b0, .slice T0 x.tos.length d0, .int .i64 x.trap] rfl rfl 61 zeroMi S3.res info_mi9 rfl (by simp [Value.oneCell']) ?_; have gS := setRow_grown w3 w.heap.size #[.int .i64 x.kind, .int .i64 x.op, .int .i64 x.a, .int .i64 x.b, .int .u64 (x.n : Int), .slice A0 x.d.length a0, .slice B0 x.s.length b0, .slice T0 x.tos.length d0, .int .i64 x.trap]; have SSr : (fun W' => W'.cell? ⟨Kx, 0, none⟩ = some (.int .i64 x.kind) ∧ W'.cell? ⟨Kx, 1, none⟩ = some (.int .i64 x.op) ∧ W'.cell? ⟨Kx, 2, none⟩ = some (.int .i64 x.a) ∧ W'.cell? ⟨Kx, 3, none⟩ = some (.int .i64 x.b) ∧ W'.cell? ⟨Kx, 4, none⟩ = some (.int .u64 (x.n : Int)) ∧ W'.cell? ⟨Kx, 5, none⟩ = some (.slice A0 x.d.length a0) ∧ W'.cell? ⟨Kx, 6, none⟩ = some (.slice B0 x.s.length b0) ∧ W'.cell? ⟨Kx, 7, none⟩ = some (.slice T0 x.tos.length d0) ∧ W'.cell? ⟨Kx, 8, none⟩ = some (.int .i64 x.trap)) (w3.setRow w.heap.size #[.int .i64 x.kind, .int .i64 x.op, .int .i64 x.a, .int .i64 x.b, .int .u64 (x.n : Int), .slice A0 x.d.length a0, .slice B0 x.s.length b0, .slice T0 x.tos.length d0, .int .i64 x.trap]) := ⟨gS.cell dd0 (by simp; omega), gS.cell dd1 (by simp; omega), gS.cell dd2 (by simp; omega), gS.cell dd3 (by simp; omega), gS.cell dd4 (by simp; omega), gS.cell dd5 (by simp; omega), gS.cell dd6 (by simp; omega), gS.cell dd7 (by simp; omega), gS.cell dd8 (by simp; omega)⟩; dsimp only at SSr)
        (try dsimp only)
        refine hK.out _ _ ?_ (fun hHeld2 => ?_)
        · first | trivial | ((try dsimp only); first | assumption | trivial | go_keep)
        clear hK K hHeld1
        (try simp only [Act.put, List.setIfInBounds_toArray, List.set_cons_succ, List.set_cons_zero])
        refine tk (i := 10) (oi := ⟨some 3, .assign (.tmp 143), 4, "ref.go:427", #[⟨8, .data⟩, ⟨9, .chain⟩, ⟨0, .phase⟩, ⟨1, .phase⟩, ⟨2, .phase⟩, ⟨3, .phase⟩, ⟨4, .phase⟩, ⟨5, .phase⟩, ⟨6, .phase⟩, ⟨7, .phase⟩, ⟨8, .phase⟩, ⟨9, .phase⟩], none⟩) rfl ?_; (try simp only [Act.put, List.setIfInBounds_toArray, List.set_cons_succ, List.set_cons_zero])
        refine wpAnyH_done (by kernel_rfl) ?_ _
        (try dsimp only)
        repeat (first | go_values | go_skip | go_guarded | go_step | go_upon)
        have fin := S3.fin #[.int .i64 x.kind, .int .i64 x.op, .int .i64 x.a, .int .i64 x.b, .int .u64 (x.n : Int), .slice A0 x.d.length a0, .slice B0 x.s.length b0, .slice T0 x.tos.length d0, .int .i64 x.trap] rfl
        refine bodyPost_ret (results_cell_row_tmp rfl _ _ w.heap.size _ #[.int .i64 x.kind, .int .i64 x.op, .int .i64 x.a, .int .i64 x.b, .int .u64 (x.n : Int), .slice A0 x.d.length a0, .slice B0 x.s.length b0, .slice T0 x.tos.length d0, .int .i64 x.trap] (0, 0) _ rfl (setRow_heap w3 w.heap.size zeroMi _ _ (0, 0) S3.res) Tryz.underlying61 rfl (by kernel_rfl)) rfl ?_
        rw [HRR.out]
        exact ⟨⟨A0, a0, B0, b0, T0, d0, rfl, fin.2, own_room S3.oD⟩, fin.1⟩
      · have HLt := Lib.hid (HLi.out htd)
        rw [HLS.out htd] at HLt
        rw [htd, Bool.true_and] at hz'
        rw [htd] at HTo
        have hbq := beq_bytes (Mc.line x) s
        obtain ⟨eq, heq⟩ : ∃ b, (Mc.line x == s) = b := ⟨_, rfl⟩
        have heq2 : decide (Mc.line x = s) = eq := by rw [← heq, Bool.eq_iff_iff]; simp
        rw [heq2] at hbq
        rw [heq] at hz'
        obtain ⟨ln, hln⟩ : ∃ u, Mc.line x = u := ⟨_, rfl⟩
        rw [hln] at HLt hbq heq
        have HRR := Lib.hid hz'
        clear hz' HLi HLS heq2 hln
        have SD : NSt w (World.drew W7) w.heap.size Kx (some ⟨g, o, none⟩) L x A0 a0 B0 b0 T0 d0 := HS0.out.below (below_drewN W7 1)
        obtain ⟨cc0, cc1, cc2, cc3, cc4, cc5, cc6, cc7, cc8⟩ := miV_cells SD.cur
        have SS : (fun W' => W'.cell? ⟨Kx, 0, none⟩ = some (.int .i64 x.kind) ∧ W'.cell? ⟨Kx, 1, none⟩ = some (.int .i64 x.op) ∧ W'.cell? ⟨Kx, 2, none⟩ = some (.int .i64 x.a) ∧ W'.cell? ⟨Kx, 3, none⟩ = some (.int .i64 x.b) ∧ W'.cell? ⟨Kx, 4, none⟩ = some (.int .u64 (x.n : Int)) ∧ W'.cell? ⟨Kx, 5, none⟩ = some (.slice A0 x.d.length a0) ∧ W'.cell? ⟨Kx, 6, none⟩ = some (.slice B0 x.s.length b0) ∧ W'.cell? ⟨Kx, 7, none⟩ = some (.slice T0 x.tos.length d0) ∧ W'.cell? ⟨Kx, 8, none⟩ = some (.int .i64 x.trap)) (World.drew W7) := ⟨cc0, cc1, cc2, cc3, cc4, cc5, cc6, cc7, cc8⟩
        dsimp only at SS
        have hl1 := SD.l1
        have hlx := SD.ltx
        refine wp_region_held_drew (S := (fun W' => W'.cell? ⟨Kx, 0, none⟩ = some (.int .i64 x.kind) ∧ W'.cell? ⟨Kx, 1, none⟩ = some (.int .i64 x.op) ∧ W'.cell? ⟨Kx, 2, none⟩ = some (.int .i64 x.a) ∧ W'.cell? ⟨Kx, 3, none⟩ = some (.int .i64 x.b) ∧ W'.cell? ⟨Kx, 4, none⟩ = some (.int .u64 (x.n : Int)) ∧ W'.cell? ⟨Kx, 5, none⟩ = some (.slice A0 x.d.length a0) ∧ W'.cell? ⟨Kx, 6, none⟩ = some (.slice B0 x.s.length b0) ∧ W'.cell? ⟨Kx, 7, none⟩ = some (.slice T0 x.tos.length d0) ∧ W'.cell? ⟨Kx, 8, none⟩ = some (.int .i64 x.trap))) (by kernel_rfl) ?_ (fun hHeld0 => ?_)
        · first | assumption | go_keep
        refine tk (i := 0) (oi := ⟨some 135, .load 61 (.tmp 6), 61, "ref.go:427", #[], none⟩) rfl ?_; (try simp only [Act.put, List.setIfInBounds_toArray, List.set_cons_succ, List.set_cons_zero])
        refine tk (i := 1) (oi := ⟨some 136, .load 61 (.tmp 6), 61, "ref.go:427", #[], none⟩) rfl ?_; (try simp only [Act.put, List.setIfInBounds_toArray, List.set_cons_succ, List.set_cons_zero])
        refine wpAnyH_ready (rs := [2]) (by kernel_rfl) (by simp) ?_
        refine AllReadyH.cons (o := ⟨some 137, .call { callee := .value (.func 37), args := #[.tmp 136], argTypes := #[61] }, 4, "ref.go:427", #[⟨1, .data⟩], none⟩) rfl (fun K hK => ?_) AllReadyH.nil
        go_simp
        (refine (HTo.out _ SD).mono ?_; rintro e w3 ⟨rfl, hb3⟩; have S3 := SD.below hb3; obtain ⟨dd0, dd1, dd2, dd3, dd4, dd5, dd6, dd7, dd8⟩ := miV_cells S3.cur; have SS3 : (fun W' => W'.cell? ⟨Kx, 0, none⟩ = some (.int .i64 x.kind) ∧ W'.cell? ⟨Kx, 1, none⟩ = some (.int .i64 x.op) ∧ W'.cell? ⟨Kx, 2, none⟩ = some (.int .i64 x.a) ∧ W'.cell? ⟨Kx, 3, none⟩ = some (.int .i64 x.b) ∧ W'.cell? ⟨Kx, 4, none⟩ = some (.int .u64 (x.n : Int)) ∧ W'.cell? ⟨Kx, 5, none⟩ = some (.slice A0 x.d.length a0) ∧ W'.cell? ⟨Kx, 6, none⟩ = some (.slice B0 x.s.length b0) ∧ W'.cell? ⟨Kx, 7, none⟩ = some (.slice T0 x.tos.length d0) ∧ W'.cell? ⟨Kx, 8, none⟩ = some (.int .i64 x.trap)) w3 := ⟨dd0, dd1, dd2, dd3, dd4, dd5, dd6, dd7, dd8⟩; dsimp only at SS3; clear hb3)
        (try dsimp only)
        refine hK.out _ _ ?_ (fun hHeld1 => ?_)
        · first | trivial | ((try dsimp only); first | assumption | trivial | go_keep)
        clear hK K hHeld0
        (try simp only [Act.put, List.setIfInBounds_toArray, List.set_cons_succ, List.set_cons_zero])
        refine tk (i := 3) (oi := ⟨some 138, .move (.tmp 137), 4, "ref.go:427", #[⟨2, .data⟩, ⟨2, .chain⟩], none⟩) rfl ?_; (try simp only [Act.put, List.setIfInBounds_toArray, List.set_cons_succ, List.set_cons_zero])
        refine tk (i := 4) (oi := ⟨some 139, .load 61 (.tmp 6), 61, "ref.go:427", #[⟨3, .guard⟩], some (3, true)⟩) rfl ?_; (try simp only [Act.put, List.setIfInBounds_toArray, List.set_cons_succ, List.set_cons_zero])
        refine tk (i := 6) (oi := ⟨some 141, .move (.tmp 0), 9, "ref.go:427", #[⟨3, .guard⟩, { on := 9, ground := .gcOnly Go.Departure.lateStores }], some (3, true)⟩) rfl ?_; (try simp only [Act.put, List.setIfInBounds_toArray, List.set_cons_succ, List.set_cons_zero])
        refine wpAnyH_ready (rs := [5]) (by kernel_rfl) (by simp) ?_
        refine AllReadyH.cons (o := ⟨some 140, .call { callee := .value (.func 38), args := #[.tmp 139], argTypes := #[61] }, 9, "ref.go:427", #[⟨4, .data⟩, ⟨3, .chain⟩, ⟨3, .guard⟩], some (3, true)⟩) rfl (fun K hK => ?_) AllReadyH.nil
        go_simp
        (refine (HLt.out _ S3).mono ?_; rintro e w4 ⟨rfl, hb4⟩; have S4 := S3.below hb4; obtain ⟨ee0, ee1, ee2, ee3, ee4, ee5, ee6, ee7, ee8⟩ := miV_cells S4.cur; have SS4 : (fun W' => W'.cell? ⟨Kx, 0, none⟩ = some (.int .i64 x.kind) ∧ W'.cell? ⟨Kx, 1, none⟩ = some (.int .i64 x.op) ∧ W'.cell? ⟨Kx, 2, none⟩ = some (.int .i64 x.a) ∧ W'.cell? ⟨Kx, 3, none⟩ = some (.int .i64 x.b) ∧ W'.cell? ⟨Kx, 4, none⟩ = some (.int .u64 (x.n : Int)) ∧ W'.cell? ⟨Kx, 5, none⟩ = some (.slice A0 x.d.length a0) ∧ W'.cell? ⟨Kx, 6, none⟩ = some (.slice B0 x.s.length b0) ∧ W'.cell? ⟨Kx, 7, none⟩ = some (.slice T0 x.tos.length d0) ∧ W'.cell? ⟨Kx, 8, none⟩ = some (.int .i64 x.trap)) w4 := ⟨ee0, ee1, ee2, ee3, ee4, ee5, ee6, ee7, ee8⟩; dsimp only at SS4; clear hb4)
        (try dsimp only)
        refine hK.out _ _ ?_ (fun hHeld2 => ?_)
        · first | trivial | ((try dsimp only); first | assumption | trivial | go_keep)
        clear hK K hHeld1
        (try simp only [Act.put, List.setIfInBounds_toArray, List.set_cons_succ, List.set_cons_zero])
        refine tk (i := 7) (oi := ⟨some 142, .binOp .eql 9 (.tmp 140) (.tmp 141) 9, 4, "ref.go:427", #[⟨5, .data⟩, ⟨6, .data⟩, ⟨3, .guard⟩, { on := 9, ground := .gcOnly Go.Departure.lateStores }], some (3, true)⟩) rfl ?_; (try simp only [Act.put, List.setIfInBounds_toArray, List.set_cons_succ, List.set_cons_zero])
        refine tk (i := 8) (oi := ⟨some 143, .pick (.tmp 138) (.tmp 142) (.const (.bool false)), 4, "ref.go:427", #[⟨3, .data⟩, ⟨7, .data⟩, { on := 9, ground := .gcOnly Go.Departure.lateStores }], none⟩) rfl ?_; (try simp only [Act.put, List.setIfInBounds_toArray, List.set_cons_succ, List.set_cons_zero])
        refine wpAnyH_ready (rs := [9]) (by kernel_rfl) (by simp) ?_
        refine AllReadyH.cons (o := ⟨none, .store 61 (.tmp 2) (.tmp 135), 0, "ref.go:427", #[⟨0, .data⟩, ⟨5, .chain⟩, ⟨0, .phase⟩, { on := 1, ground := .textOnly Go.Departure.lateStores }, { on := 2, ground := .textOnly Go.Departure.lateStoresUnsure }, { on := 3, ground := .textOnly Go.Departure.lateStores }, { on := 4, ground := .textOnly Go.Departure.lateStores }, { on := 5, ground := .textOnly Go.Departure.lateStoresUnsure }, { on := 6, ground := .textOnly Go.Departure.lateStores }, { on := 7, ground := .textOnly Go.Departure.lateStores }, { on := 8, ground := .textOnly Go.Departure.lateStores }], none⟩) rfl (fun K hK => ?_) AllReadyH.nil
        (rw [if_pos (by rfl)]; refine wp_store_row 61 (.tmp 2) (.tmp 135) rfl w.heap.size #[.int .i64 x.kind, .int .i64 x.op, .int .i64 x.a, .int .i64 x.b, .int .u64 (x.n : Int), .slice A0 x.d.length a0, .slice B0 x.s.length b0, .slice T0 x.tos.length d0, .int .i64 x.trap] rfl rfl 61 zeroMi S4.res info_mi9 rfl (by simp [Value.oneCell']) ?_; have gS := setRow_grown w4 w.heap.size #[.int .i64 x.kind, .int .i64 x.op, .int .i64 x.a, .int .i64 x.b, .int .u64 (x.n : Int), .slice A0 x.d.length a0, .slice B0 x.s.length b0, .slice T0 x.tos.length d0, .int .i64 x.trap]; have SSr : (fun W' => W'.cell? ⟨Kx, 0, none⟩ = some (.int .i64 x.kind) ∧ W'.cell? ⟨Kx, 1, none⟩ = some (.int .i64 x.op) ∧ W'.cell? ⟨Kx, 2, none⟩ = some (.int .i64 x.a) ∧ W'.cell? ⟨Kx, 3, none⟩ = some (.int .i64 x.b) ∧ W'.cell? ⟨Kx, 4, none⟩ = some (.int .u64 (x.n : Int)) ∧ W'.cell? ⟨Kx, 5, none⟩ = some (.slice A0 x.d.length a0) ∧ W'.cell? ⟨Kx, 6, none⟩ = some (.slice B0 x.s.length b0) ∧ W'.cell? ⟨Kx, 7, none⟩ = some (.slice T0 x.tos.length d0) ∧ W'.cell? ⟨Kx, 8, none⟩ = some (.int .i64 x.trap)) (w4.setRow w.heap.size #[.int .i64 x.kind, .int .i64 x.op, .int .i64 x.a, .int .i64 x.b, .int .u64 (x.n : Int), .slice A0 x.d.length a0, .slice B0 x.s.length b0, .slice T0 x.tos.length d0, .int .i64 x.trap]) := ⟨gS.cell ee0 (by simp; omega), gS.cell ee1 (by simp; omega), gS.cell ee2 (by simp; omega), gS.cell ee3 (by simp; omega), gS.cell ee4 (by simp; omega), gS.cell ee5 (by simp; omega), gS.cell ee6 (by simp; omega), gS.cell ee7 (by simp; omega), gS.cell ee8 (by simp; omega)⟩; dsimp only at SSr)
        (try dsimp only)
        refine hK.out _ _ ?_ (fun hHeld3 => ?_)
        · first | trivial | ((try dsimp only); first | assumption | trivial | go_keep)
        clear hK K hHeld2
        (try simp only [Act.put, List.setIfInBounds_toArray, List.set_cons_succ, List.set_cons_zero])
        refine tk (i := 10) (oi := ⟨some 3, .assign (.tmp 143), 4, "ref.go:427", #[⟨8, .data⟩, ⟨9, .chain⟩, ⟨0, .phase⟩, ⟨1, .phase⟩, ⟨2, .phase⟩, ⟨3, .phase⟩, ⟨4, .phase⟩, ⟨5, .phase⟩, ⟨6, .phase⟩, ⟨7, .phase⟩, ⟨8, .phase⟩, ⟨9, .phase⟩], none⟩) rfl ?_; (try simp only [Act.put, List.setIfInBounds_toArray, List.set_cons_succ, List.set_cons_zero])
        refine wpAnyH_done (by kernel_rfl) ?_ _
        (try dsimp only)
        repeat (first | go_values | go_skip | go_guarded | go_step | go_upon)
        have fin := S4.fin #[.int .i64 x.kind, .int .i64 x.op, .int .i64 x.a, .int .i64 x.b, .int .u64 (x.n : Int), .slice A0 x.d.length a0, .slice B0 x.s.length b0, .slice T0 x.tos.length d0, .int .i64 x.trap] rfl
        refine bodyPost_ret (results_cell_row_tmp rfl _ _ w.heap.size _ #[.int .i64 x.kind, .int .i64 x.op, .int .i64 x.a, .int .i64 x.b, .int .u64 (x.n : Int), .slice A0 x.d.length a0, .slice B0 x.s.length b0, .slice T0 x.tos.length d0, .int .i64 x.trap] (0, 0) _ rfl (setRow_heap w4 w.heap.size zeroMi _ _ (0, 0) S4.res) Tryz.underlying61 rfl (by kernel_rfl)) rfl ?_
        rw [HRR.out]
        exact ⟨⟨A0, a0, B0, b0, T0, d0, rfl, fin.2, own_room S4.oD⟩, fin.1⟩
    have x0 : (i : Int) < (L.length : Int) := by omega
    have x1 : (0 : Int) ≤ (i : Int) := by omega
    obtain ⟨A0, a0, B0, b0, T0, d0, S0⟩ := HS.out
    obtain ⟨ga, oa, hae, -, f0'⟩ := S0.wl.get hia
    cases hae
    have f0 := f0' 0 _ rfl
    rw [Nat.add_zero, Nat.mul_one] at f0
    have hz := HZ.out
    rw [List.drop_eq_getElem_cons hia, Mc.restR] at hz
    have hul := HLW.out i
    rw [show L.getD i [] = L[i] by simp [List.getD_eq_getElem?_getD, hia]] at hul
    obtain ⟨u, hu⟩ : ∃ u, L[i] = u := ⟨_, rfl⟩
    rw [hu] at f0 hz hul
    have hwi : IntKind.i64.wrap ((i : Int) + 1) = (i : Int) + 1 := by rw [IntKind.wrap_i64]; omega
    have HNum := Lib.hid (fun (v : Mc.W) (hv : v.length ≤ 1000000) W => rnumber_any v hv W)
    clear f0' hu HZ HS
    by_cases h61 : u = [61]
    · subst h61
      rw [if_pos rfl] at hz
      have HZ2 := Lib.hid hz
      have HS2 := Lib.hid S0.ex
      clear hz S0 HNum hul
      go_wp2_with fail
      go_roundw
      case rel => exact ⟨i + 1, tg, false, D, S', T, by go_num, rfl, rfl, by omega, Lib.hid HL.out.skip, HS2, HZ2⟩
      case measure => simp [intOf] <;> omega
    rw [if_neg h61] at hz
    have n61 := beq_no h61
    have m61 : (u == [61]) = false := by simpa using h61
    by_cases h58 : u = [58]
    · subst h58
      rw [if_pos rfl] at hz
      have HZ2 := Lib.hid hz
      have HS2 := Lib.hid S0.ex
      clear hz S0 HNum hul h61
      go_wp2_with fail
      go_roundw
      case rel => exact ⟨i + 1, true, ds, D, S', T, by go_num, rfl, rfl, by omega, Lib.hid HL.out.skip, HS2, HZ2⟩
      case measure => simp [intOf] <;> omega
    rw [if_neg h58] at hz
    have n58 := beq_no h58
    have m58 : (u == [58]) = false := by simpa using h58
    have HH61 := Lib.hid h61
    have HH58 := Lib.hid h58
    clear h61 h58
    rcases tg with _ | _
    case true =>
      rw [if_pos rfl] at hz
      have HN := Lib.hid (HNum.out u hul)
      obtain ⟨fo, hfo⟩ : ∃ x, Mc.rnum u = x := ⟨_, rfl⟩
      rw [hfo] at HN hz
      obtain ⟨q, hq⟩ : ∃ q, Mc.toI fo = q := ⟨_, rfl⟩
      have hcv : IntKind.i64.wrap fo = q := hq
      have hqi : InR q := by rw [← hq]; exact Mc.toI_in fo
      rw [hq] at hz
      have HZ2 := Lib.hid hz
      have HS0 := Lib.hid S0
      have hlo := S0.l1
      clear hz hfo hq HNum S0 hul
      go_upto_region 33 with fail
      clear f0
      refine wp_region_held_drew (S := (fun _ => True)) (by kernel_rfl) ?_ (fun hHeld0 => ?_)
      · first | assumption | go_keep
      refine at_anyN (F := fun W => Hid (NSt w W w.heap.size Kx (some ⟨g, o, none⟩) L ⟨(k : Int), v1, v2, v3, v4, D, S', T, v5⟩ A0 a0 B0 b0 T0 d0)) (Lib.hid (HS0.out.below (below_drewN _ 1))) ?_
      clear HS0
      intro W0 SD
      have c3 : W0.cell? ⟨Kx, 7, none⟩ = some (Value.slice T0 T.length d0) := SD.out.cur.cells 7
      refine tk (i := 0) (oi := ⟨some 107, .fieldAddr 61 (.tmp 6) 7, 0, "ref.go:418", #[], none⟩) rfl ?_; (try simp only [Act.put, List.setIfInBounds_toArray, List.set_cons_succ, List.set_cons_zero])
      refine tk (i := 2) (oi := ⟨some 109, .move (.tmp 12), 9, "ref.go:418", #[], none⟩) rfl ?_; (try simp only [Act.put, List.setIfInBounds_toArray, List.set_cons_succ, List.set_cons_zero])
      refine wpAnyH_ready (rs := [1, 3]) (by kernel_rfl) (by simp) ?_
      refine (AllReadyH.cons (o := ⟨some 108, .load 58 (.tmp 107), 58, "ref.go:418", #[⟨0, .data⟩], none⟩) rfl (fun K hK => ?_) (AllReadyH.cons (o := ⟨some 110, .call { callee := .value (.func 98), args := #[.tmp 109], argTypes := #[9] }, 56, "ref.go:418", #[⟨2, .data⟩], none⟩) rfl (fun K hK => ?_) AllReadyH.nil))
      · skip
        go_simp
        skip
        (try dsimp only)
        refine hK.out _ _ ?_ (fun hHeld1 => ?_)
        · first | trivial | ((try dsimp only); first | assumption | trivial | go_keep)
        clear hK K hHeld0
        (try simp only [Act.put, List.setIfInBounds_toArray, List.set_cons_succ, List.set_cons_zero])
        refine wpAnyH_ready (rs := [3]) (by kernel_rfl) (by simp) ?_
        refine (AllReadyH.cons (o := ⟨some 110, .call { callee := .value (.func 98), args := #[.tmp 109], argTypes := #[9] }, 56, "ref.go:418", #[⟨2, .data⟩], none⟩) rfl (fun K hK => ?_) AllReadyH.nil)
        go_simp
        (refine (HN.out _).mono ?_; rintro e w3 ⟨rfl, hb3⟩; have S4 := SD.out.below hb3; have c4 : w3.cell? ⟨Kx, 7, none⟩ = some (Value.slice T0 T.length d0) := S4.cur.cells 7; clear hb3)
        (try dsimp only)
        refine hK.out _ _ ?_ (fun hHeld2 => ?_)
        · first | trivial | ((try dsimp only); first | assumption | trivial | go_keep)
        clear hK K hHeld1
        (try simp only [Act.put, List.setIfInBounds_toArray, List.set_cons_succ, List.set_cons_zero])
        refine tk (i := 4) (oi := ⟨some 111, .convert 56 3 (.tmp 110), 3, "ref.go:418", #[⟨3, .data⟩], none⟩) rfl ?_; (try simp only [Act.put, List.setIfInBounds_toArray, List.set_cons_succ, List.set_cons_zero])
        refine wpAnyH_ready (rs := [5]) (by kernel_rfl) (by simp) ?_
        refine (AllReadyH.cons (o := ⟨some 112, .buildSlice 58 1 #[(0, .tmp 111)], 58, "ref.go:418", #[⟨4, .data⟩], none⟩) rfl (fun K hK => ?_) AllReadyH.nil)
        go_simp
        (have S5 := S4.below ((Below.refl _ _).alloc (Nat.le_refl _) (.cells #[.int .i64 q] 3)); have c5 : (w3.alloc (.cells #[.int .i64 q] 3)).cell? ⟨Kx, 7, none⟩ = some (Value.slice T0 T.length d0) := S5.cur.cells 7)
        (try dsimp only)
        refine hK.out _ _ ?_ (fun hHeld3 => ?_)
        · first | trivial | ((try dsimp only); first | assumption | trivial | go_keep)
        clear hK K hHeld2
        (try simp only [Act.put, List.setIfInBounds_toArray, List.set_cons_succ, List.set_cons_zero])
        refine wpAnyH_ready (rs := [6]) (by kernel_rfl) (by simp) ?_
        refine (AllReadyH.cons (o := ⟨some 113, .call { callee := .builtin .append, args := #[.tmp 108, .tmp 112], argTypes := #[58, 58] }, 58, "ref.go:418", #[⟨1, .data⟩, ⟨5, .data⟩, ⟨3, .chain⟩], none⟩) rfl (fun K hK => ?_) AllReadyH.nil)
        (refine step_app2 Tryz.underlying58 hi0 hz0 hz1 hz2 rfl (by omega) encZ_len encZ_one _ rfl (.tmp 108) (.tmp 112) rfl (Kx + 1) (.slice T0 T.length d0) T.length T (by rfl) S5.oT [q] 1 1 _ rfl (by rfl) (one_int w3 q) (by have := HL.out.n; omega) (by omega) (by have := S5.ltx; omega) ?_; intro A9 c9 w5 own5 hg5 hob5; have V5 := var_grown S5.cur S5.oT (by decide) hg5; have S6 := S5.appT rfl own5 hg5; have e7 := V5.cells 7; have z7 := V5.froz 7; have l7 := V5.lt)
        (try dsimp only)
        refine hK.out _ _ ?_ (fun hHeld4 => ?_)
        · first | trivial | ((try dsimp only); first | assumption | trivial | go_keep)
        clear hK K hHeld3
        (try simp only [Act.put, List.setIfInBounds_toArray, List.set_cons_succ, List.set_cons_zero])
        refine tk (i := 7) (oi := ⟨some 114, .fieldAddr 61 (.tmp 6) 7, 0, "ref.go:418", #[⟨0, .phase⟩, ⟨1, .phase⟩, ⟨2, .phase⟩, ⟨3, .phase⟩, ⟨4, .phase⟩, ⟨5, .phase⟩, ⟨6, .phase⟩], none⟩) rfl ?_; (try simp only [Act.put, List.setIfInBounds_toArray, List.set_cons_succ, List.set_cons_zero])
        refine wpAnyH_ready (rs := [8]) (by kernel_rfl) (by simp) ?_
        refine (AllReadyH.cons (o := ⟨none, .store 58 (.tmp 114) (.tmp 113), 0, "ref.go:418", #[⟨7, .data⟩, ⟨6, .data⟩, ⟨6, .chain⟩, ⟨0, .phase⟩, ⟨1, .phase⟩, ⟨2, .phase⟩, ⟨3, .phase⟩, ⟨4, .phase⟩, ⟨5, .phase⟩, ⟨6, .phase⟩], none⟩) rfl (fun K hK => ?_) AllReadyH.nil)
        go_simp
        skip
        (try dsimp only)
        refine hK.out _ _ ?_ (fun hHeld5 => ?_)
        · first | trivial | ((try dsimp only); first | assumption | trivial | go_keep)
        clear hK K hHeld4
        (try simp only [Act.put, List.setIfInBounds_toArray, List.set_cons_succ, List.set_cons_zero])
        refine wpAnyH_done (by kernel_rfl) ?_ _
        (try dsimp only)
        repeat (first | go_values | go_skip | go_guarded | go_step | go_upon)
        go_roundw
        case rel => exact ⟨i + 1, true, ds, D, S', T ++ [q], by go_num, rfl, rfl, by omega, Lib.hid (HL.out.addT hqi), Lib.hid S6.ex, HZ2⟩
        case measure => simp [intOf] <;> omega
      · skip
        go_simp
        (refine (HN.out _).mono ?_; rintro e w3 ⟨rfl, hb3⟩; have S4 := SD.out.below hb3; have c4 : w3.cell? ⟨Kx, 7, none⟩ = some (Value.slice T0 T.length d0) := S4.cur.cells 7; clear hb3)
        (try dsimp only)
        refine hK.out _ _ ?_ (fun hHeld1 => ?_)
        · first | trivial | ((try dsimp only); first | assumption | trivial | go_keep)
        clear hK K hHeld0
        (try simp only [Act.put, List.setIfInBounds_toArray, List.set_cons_succ, List.set_cons_zero])
        refine tk (i := 4) (oi := ⟨some 111, .convert 56 3 (.tmp 110), 3, "ref.go:418", #[⟨3, .data⟩], none⟩) rfl ?_; (try simp only [Act.put, List.setIfInBounds_toArray, List.set_cons_succ, List.set_cons_zero])
        refine wpAnyH_ready (rs := [1, 5]) (by kernel_rfl) (by simp) ?_
        refine (AllReadyH.cons (o := ⟨some 108, .load 58 (.tmp 107), 58, "ref.go:418", #[⟨0, .data⟩], none⟩) rfl (fun K hK => ?_) (AllReadyH.cons (o := ⟨some 112, .buildSlice 58 1 #[(0, .tmp 111)], 58, "ref.go:418", #[⟨4, .data⟩], none⟩) rfl (fun K hK => ?_) AllReadyH.nil))
        · skip
          go_simp
          skip
          (try dsimp only)
          refine hK.out _ _ ?_ (fun hHeld2 => ?_)
          · first | trivial | ((try dsimp only); first | assumption | trivial | go_keep)
          clear hK K hHeld1
          (try simp only [Act.put, List.setIfInBounds_toArray, List.set_cons_succ, List.set_cons_zero])
          refine wpAnyH_ready (rs := [5]) (by kernel_rfl) (by simp) ?_
          refine (AllReadyH.cons (o := ⟨some 112, .buildSlice 58 1 #[(0, .tmp 111)], 58, "ref.go:418", #[⟨4, .data⟩], none⟩) rfl (fun K hK => ?_) AllReadyH.nil)
          go_simp
          (have S5 := S4.below ((Below.refl _ _).alloc (Nat.le_refl _) (.cells #[.int .i64 q] 3)); have c5 : (w3.alloc (.cells #[.int .i64 q] 3)).cell? ⟨Kx, 7, none⟩ = some (Value.slice T0 T.length d0) := S5.cur.cells 7)
          (try dsimp only)
          refine hK.out _ _ ?_ (fun hHeld3 => ?_)
          · first | trivial | ((try dsimp only); first | assumption | trivial | go_keep)
          clear hK K hHeld2
          (try simp only [Act.put, List.setIfInBounds_toArray, List.set_cons_succ, List.set_cons_zero])
          refine wpAnyH_ready (rs := [6]) (by kernel_rfl) (by simp) ?_
          refine (AllReadyH.cons (o := ⟨some 113, .call { callee := .builtin .append, args := #[.tmp 108, .tmp 112], argTypes := #[58, 58] }, 58, "ref.go:418", #[⟨1, .data⟩, ⟨5, .data⟩, ⟨3, .chain⟩], none⟩) rfl (fun K hK => ?_) AllReadyH.nil)
          (refine step_app2 Tryz.underlying58 hi0 hz0 hz1 hz2 rfl (by omega) encZ_len encZ_one _ rfl (.tmp 108) (.tmp 112) rfl (Kx + 1) (.slice T0 T.length d0) T.length T (by rfl) S5.oT [q] 1 1 _ rfl (by rfl) (one_int w3 q) (by have := HL.out.n; omega) (by omega) (by have := S5.ltx; omega) ?_; intro A9 c9 w5 own5 hg5 hob5; have V5 := var_grown S5.cur S5.oT (by decide) hg5; have S6 := S5.appT rfl own5 hg5; have e7 := V5.cells 7; have z7 := V5.froz 7; have l7 := V5.lt)
          (try dsimp only)
          refine hK.out _ _ ?_ (fun hHeld4 => ?_)
          · first | trivial | ((try dsimp only); first | assumption | trivial | go_keep)
          clear hK K hHeld3
          (try simp only [Act.put, List.setIfInBounds_toArray, List.set_cons_succ, List.set_cons_zero])
          refine tk (i := 7) (oi := ⟨some 114, .fieldAddr 61 (.tmp 6) 7, 0, "ref.go:418", #[⟨0, .phase⟩, ⟨1, .phase⟩, ⟨2, .phase⟩, ⟨3, .phase⟩, ⟨4, .phase⟩, ⟨5, .phase⟩, ⟨6, .phase⟩], none⟩) rfl ?_; (try simp only [Act.put, List.setIfInBounds_toArray, List.set_cons_succ, List.set_cons_zero])
          refine wpAnyH_ready (rs := [8]) (by kernel_rfl) (by simp) ?_
          refine (AllReadyH.cons (o := ⟨none, .store 58 (.tmp 114) (.tmp 113), 0, "ref.go:418", #[⟨7, .data⟩, ⟨6, .data⟩, ⟨6, .chain⟩, ⟨0, .phase⟩, ⟨1, .phase⟩, ⟨2, .phase⟩, ⟨3, .phase⟩, ⟨4, .phase⟩, ⟨5, .phase⟩, ⟨6, .phase⟩], none⟩) rfl (fun K hK => ?_) AllReadyH.nil)
          go_simp
          skip
          (try dsimp only)
          refine hK.out _ _ ?_ (fun hHeld5 => ?_)
          · first | trivial | ((try dsimp only); first | assumption | trivial | go_keep)
          clear hK K hHeld4
          (try simp only [Act.put, List.setIfInBounds_toArray, List.set_cons_succ, List.set_cons_zero])
          refine wpAnyH_done (by kernel_rfl) ?_ _
          (try dsimp only)
          repeat (first | go_values | go_skip | go_guarded | go_step | go_upon)
          go_roundw
          case rel => exact ⟨i + 1, true, ds, D, S', T ++ [q], by go_num, rfl, rfl, by omega, Lib.hid (HL.out.addT hqi), Lib.hid S6.ex, HZ2⟩
          case measure => simp [intOf] <;> omega
        · skip
          go_simp
          (have S5 := S4.below ((Below.refl _ _).alloc (Nat.le_refl _) (.cells #[.int .i64 q] 3)); have c5 : (w3.alloc (.cells #[.int .i64 q] 3)).cell? ⟨Kx, 7, none⟩ = some (Value.slice T0 T.length d0) := S5.cur.cells 7)
          (try dsimp only)
          refine hK.out _ _ ?_ (fun hHeld2 => ?_)
          · first | trivial | ((try dsimp only); first | assumption | trivial | go_keep)
          clear hK K hHeld1
          (try simp only [Act.put, List.setIfInBounds_toArray, List.set_cons_succ, List.set_cons_zero])
          refine wpAnyH_ready (rs := [1]) (by kernel_rfl) (by simp) ?_
          refine (AllReadyH.cons (o := ⟨some 108, .load 58 (.tmp 107), 58, "ref.go:418", #[⟨0, .data⟩], none⟩) rfl (fun K hK => ?_) AllReadyH.nil)
          go_simp
          skip
          (try dsimp only)
          refine hK.out _ _ ?_ (fun hHeld3 => ?_)
          · first | trivial | ((try dsimp only); first | assumption | trivial | go_keep)
          clear hK K hHeld2
          (try simp only [Act.put, List.setIfInBounds_toArray, List.set_cons_succ, List.set_cons_zero])
          refine wpAnyH_ready (rs := [6]) (by kernel_rfl) (by simp) ?_
          refine (AllReadyH.cons (o := ⟨some 113, .call { callee := .builtin .append, args := #[.tmp 108, .tmp 112], argTypes := #[58, 58] }, 58, "ref.go:418", #[⟨1, .data⟩, ⟨5, .data⟩, ⟨3, .chain⟩], none⟩) rfl (fun K hK => ?_) AllReadyH.nil)
          (refine step_app2 Tryz.underlying58 hi0 hz0 hz1 hz2 rfl (by omega) encZ_len encZ_one _ rfl (.tmp 108) (.tmp 112) rfl (Kx + 1) (.slice T0 T.length d0) T.length T (by rfl) S5.oT [q] 1 1 _ rfl (by rfl) (one_int w3 q) (by have := HL.out.n; omega) (by omega) (by have := S5.ltx; omega) ?_; intro A9 c9 w5 own5 hg5 hob5; have V5 := var_grown S5.cur S5.oT (by decide) hg5; have S6 := S5.appT rfl own5 hg5; have e7 := V5.cells 7; have z7 := V5.froz 7; have l7 := V5.lt)
          (try dsimp only)
          refine hK.out _ _ ?_ (fun hHeld4 => ?_)
          · first | trivial | ((try dsimp only); first | assumption | trivial | go_keep)
          clear hK K hHeld3
          (try simp only [Act.put, List.setIfInBounds_toArray, List.set_cons_succ, List.set_cons_zero])
          refine tk (i := 7) (oi := ⟨some 114, .fieldAddr 61 (.tmp 6) 7, 0, "ref.go:418", #[⟨0, .phase⟩, ⟨1, .phase⟩, ⟨2, .phase⟩, ⟨3, .phase⟩, ⟨4, .phase⟩, ⟨5, .phase⟩, ⟨6, .phase⟩], none⟩) rfl ?_; (try simp only [Act.put, List.setIfInBounds_toArray, List.set_cons_succ, List.set_cons_zero])
          refine wpAnyH_ready (rs := [8]) (by kernel_rfl) (by simp) ?_
          refine (AllReadyH.cons (o := ⟨none, .store 58 (.tmp 114) (.tmp 113), 0, "ref.go:418", #[⟨7, .data⟩, ⟨6, .data⟩, ⟨6, .chain⟩, ⟨0, .phase⟩, ⟨1, .phase⟩, ⟨2, .phase⟩, ⟨3, .phase⟩, ⟨4, .phase⟩, ⟨5, .phase⟩, ⟨6, .phase⟩], none⟩) rfl (fun K hK => ?_) AllReadyH.nil)
          go_simp
          skip
          (try dsimp only)
          refine hK.out _ _ ?_ (fun hHeld5 => ?_)
          · first | trivial | ((try dsimp only); first | assumption | trivial | go_keep)
          clear hK K hHeld4
          (try simp only [Act.put, List.setIfInBounds_toArray, List.set_cons_succ, List.set_cons_zero])
          refine wpAnyH_done (by kernel_rfl) ?_ _
          (try dsimp only)
          repeat (first | go_values | go_skip | go_guarded | go_step | go_upon)
          go_roundw
          case rel => exact ⟨i + 1, true, ds, D, S', T ++ [q], by go_num, rfl, rfl, by omega, Lib.hid (HL.out.addT hqi), Lib.hid S6.ex, HZ2⟩
          case measure => simp [intOf] <;> omega
    rw [if_neg (by decide)] at hz
    by_cases hlen : u.length < 2
    · rw [if_pos hlen] at hz
      have HRR : Hid (R = (Mc.mi0, false)) := Lib.hid hz
      have hsz : (ByteArray.mk u.toArray).size = u.length := by simp [ByteArray.size]
      have y0 : (u.length : Int) < 2 := by omega
      have HV : Hid (Var wr w.heap.size zeroMi 61) := Lib.hid S0.res
      have HB : Hid (Below w.heap.size w wr) := Lib.hid S0.bel
      obtain ⟨q0, q1, q2, q3, q4, q5, q6, q7, q8⟩ := cells9 (show Var wr w.heap.size #[.int .i64 0, .int .i64 0, .int .i64 0, .int .i64 0, .int .u64 0, .slice none 0 0, .slice none 0 0, .slice none 0 0, .int .i64 0] 61 from HV.out)
      have hlt := HV.out.lt
      have z0 := HV.out.froz 0
      have z1 := HV.out.froz 1
      have z2 := HV.out.froz 2
      have z3 := HV.out.froz 3
      have z4 := HV.out.froz 4
      have z5 := HV.out.froz 5
      have z6 := HV.out.froz 6
      have z7 := HV.out.froz 7
      have z8 := HV.out.froz 8
      clear hz S0 HNum hul HL
      go_upto_region 35 with fail
      clear f0 y0 hsz hlen x0 x1 hwi n61 m61 n58 m58
      repeat (first | go_values | go_skip | go_guarded | go_step | go_upon)
      have hp := put9 (show Var wr w.heap.size #[.int .i64 0, .int .i64 0, .int .i64 0, .int .i64 0, .int .u64 0, .slice none 0 0, .slice none 0 0, .slice none 0 0, .int .i64 0] 61 from HV.out) (.int .i64 0) (.int .i64 0) (.int .i64 0) (.int .i64 0) (.int .u64 0) (.slice none 0 0) (.slice none 0 0) (.slice none 0 0) (.int .i64 0)
      refine bodyPost_ret (results_cell_row_tmp rfl _ _ w.heap.size _ _ (0, 0) _ rfl hp.1 Tryz.underlying61 rfl (by kernel_rfl)) rfl ?_
      rw [HRR.out]
      exact ⟨⟨none, 0, none, 0, none, 0, rfl, ⟨RdT.nil_, RdT.nil_, RdT.nil_⟩, Nat.le_refl _⟩, below_grown HB.out hp.2 HB.out.size (Nat.le_refl _)⟩
    rw [if_neg hlen] at hz
    obtain ⟨b, r, rfl⟩ : ∃ b r, u = b :: r := List.exists_cons_of_ne_nil (by intro e; rw [e] at hlen; simp at hlen)
    have hpr : Mc.plR (b :: r) = ⟨decide (b.toNat = 115), Mc.toI (Mc.rnum r)⟩ := by
      unfold Mc.plR
      congr 1
      rw [Bool.eq_iff_iff]
      simp only [List.head?_cons, beq_iff_eq, Option.some.injEq, decide_eq_true_eq]
      constructor
      · intro h; rw [h]; rfl
      · intro h; apply UInt8.toNat.inj; rw [h]; rfl
    rw [hpr] at hz
    simp only [List.length_cons] at hlen hul
    have hsz : (ByteArray.mk (b :: r).toArray).size = r.length + 1 := by simp [ByteArray.size]
    have y0 : ¬ ((r.length : Int) + 1 < 2) := by omega
    have y1 : (0 : Int) < (r.length : Int) + 1 := by omega
    have y3 : (1 : Int) ≤ (r.length : Int) + 1 := by omega
    obtain ⟨nb, hnb⟩ : ∃ n : Nat, b.toNat = n := ⟨_, rfl⟩
    rw [hnb] at hz
    have y2 : ∀ h, (((ByteArray.mk (b :: r).toArray)[0]'h).toNat : Int) = (nb : Int) := fun h => by show (b.toNat : Int) = _; omega
    obtain ⟨qs, hq1, hq2⟩ : ∃ q : Bool, decide (nb = 115) = q ∧ ((nb : Int) == 115) = q := ⟨decide (nb = 115), rfl, by rw [Bool.eq_iff_iff]; simp; omega⟩
    rw [hq1] at hz
    have HN := Lib.hid (HNum.out r (by omega))
    obtain ⟨fo, hfo⟩ : ∃ x, Mc.rnum r = x := ⟨_, rfl⟩
    rw [hfo] at HN hz
    obtain ⟨q, hq⟩ : ∃ q, Mc.toI fo = q := ⟨_, rfl⟩
    have hcv : IntKind.i64.wrap fo = q := hq
    have hqi : InR q := by rw [← hq]; exact Mc.toI_in fo
    rw [hq] at hz
    have HZ2 := Lib.hid hz
    have HS0 := Lib.hid S0
    have hlo := S0.l1
    clear hz hfo hq HNum S0 hul hq1 hnb hpr
    rcases ds with _ | _
    · have hz3 := HZ2.out
      rw [if_neg (by decide)] at hz3
      replace HZ2 := Lib.hid hz3
      clear hz3
      go_upto_region 27 with fail
      clear f0
      refine wp_region_held_drew (S := (fun _ => True)) (by kernel_rfl) ?_ (fun hHeld0 => ?_)
      · first | assumption | go_keep
      refine at_anyN (F := fun W => Hid (NSt w W w.heap.size Kx (some ⟨g, o, none⟩) L ⟨(k : Int), v1, v2, v3, v4, D, S', T, v5⟩ A0 a0 B0 b0 T0 d0)) (Lib.hid (HS0.out.below (below_drewN _ 1))) ?_
      clear HS0
      intro W0 SD
      have c3 : W0.cell? ⟨Kx, 6, none⟩ = some (Value.slice B0 S'.length b0) := SD.out.cur.cells 6
      refine tk (i := 0) (oi := ⟨some 86, .fieldAddr 61 (.tmp 6) 6, 0, "ref.go:424", #[], none⟩) rfl ?_; (try simp only [Act.put, List.setIfInBounds_toArray, List.set_cons_succ, List.set_cons_zero])
      refine tk (i := 2) (oi := ⟨some 88, .move (.tmp 12), 9, "ref.go:424", #[], none⟩) rfl ?_; (try simp only [Act.put, List.setIfInBounds_toArray, List.set_cons_succ, List.set_cons_zero])
      refine tk (i := 3) (oi := ⟨some 89, .index 9 (.tmp 88) (.const (.int .i64 0)), 5, "ref.go:424", #[⟨2, .data⟩], none⟩) rfl ?_; (try simp only [Act.put, List.setIfInBounds_toArray, List.set_cons_succ, List.set_cons_zero])
      refine tk (i := 4) (oi := ⟨some 90, .binOp .eql 5 (.tmp 89) (.const (.int .u8 115)) 5, 4, "ref.go:424", #[⟨3, .data⟩], none⟩) rfl ?_; (try simp only [Act.put, List.setIfInBounds_toArray, List.set_cons_succ, List.set_cons_zero])
      refine tk (i := 5) (oi := ⟨some 91, .move (.tmp 12), 9, "ref.go:424", #[], none⟩) rfl ?_; (try simp only [Act.put, List.setIfInBounds_toArray, List.set_cons_succ, List.set_cons_zero])
      refine tk (i := 6) (oi := ⟨some 92, .slice 9 (.tmp 91) (some (.const (.int .i64 1))) none none, 9, "ref.go:424", #[⟨5, .data⟩], none⟩) rfl ?_; (try simp only [Act.put, List.setIfInBounds_toArray, List.set_cons_succ, List.set_cons_zero])
      refine wpAnyH_ready (rs := [1, 7]) (by kernel_rfl) (by simp) ?_
      refine (AllReadyH.cons (o := ⟨some 87, .load 57 (.tmp 86), 57, "ref.go:424", #[⟨0, .data⟩], none⟩) rfl (fun K hK => ?_) (AllReadyH.cons (o := ⟨some 93, .call { callee := .value (.func 98), args := #[.tmp 92], argTypes := #[9] }, 56, "ref.go:424", #[⟨6, .data⟩], none⟩) rfl (fun K hK => ?_) AllReadyH.nil))
      · skip
        go_simp
        skip
        (try dsimp only)
        refine hK.out _ _ ?_ (fun hHeld1 => ?_)
        · first | trivial | ((try dsimp only); first | assumption | trivial | go_keep)
        clear hK K hHeld0
        (try simp only [Act.put, List.setIfInBounds_toArray, List.set_cons_succ, List.set_cons_zero])
        refine wpAnyH_ready (rs := [7]) (by kernel_rfl) (by simp) ?_
        refine (AllReadyH.cons (o := ⟨some 93, .call { callee := .value (.func 98), args := #[.tmp 92], argTypes := #[9] }, 56, "ref.go:424", #[⟨6, .data⟩], none⟩) rfl (fun K hK => ?_) AllReadyH.nil)
        go_simp
        (refine (HN.out _).mono ?_; rintro e w3 ⟨rfl, hb3⟩; have S4 := SD.out.below hb3; have c4 : w3.cell? ⟨Kx, 6, none⟩ = some (Value.slice B0 S'.length b0) := S4.cur.cells 6; clear hb3)
        (try dsimp only)
        refine hK.out _ _ ?_ (fun hHeld2 => ?_)
        · first | trivial | ((try dsimp only); first | assumption | trivial | go_keep)
        clear hK K hHeld1
        (try simp only [Act.put, List.setIfInBounds_toArray, List.set_cons_succ, List.set_cons_zero])
        refine tk (i := 8) (oi := ⟨some 94, .convert 56 3 (.tmp 93), 3, "ref.go:424", #[⟨7, .data⟩], none⟩) rfl ?_; (try simp only [Act.put, List.setIfInBounds_toArray, List.set_cons_succ, List.set_cons_zero])
        refine tk (i := 9) (oi := ⟨some 95, .build 64 #[(0, .tmp 90), (1, .tmp 94)], 64, "ref.go:424", #[⟨4, .data⟩, ⟨8, .data⟩], none⟩) rfl ?_; (try simp only [Act.put, List.setIfInBounds_toArray, List.set_cons_succ, List.set_cons_zero])
        refine wpAnyH_ready (rs := [10]) (by kernel_rfl) (by simp) ?_
        refine (AllReadyH.cons (o := ⟨some 96, .buildSlice 57 1 #[(0, .tmp 95)], 57, "ref.go:424", #[⟨9, .data⟩], none⟩) rfl (fun K hK => ?_) AllReadyH.nil)
        go_simp
        (have S5 := S4.below ((Below.refl _ _).alloc (Nat.le_refl _) (.cells #[.bool qs, .int .i64 q] 64)); have c5 : (w3.alloc (.cells #[.bool qs, .int .i64 q] 64)).cell? ⟨Kx, 6, none⟩ = some (Value.slice B0 S'.length b0) := S5.cur.cells 6)
        (try dsimp only)
        refine hK.out _ _ ?_ (fun hHeld3 => ?_)
        · first | trivial | ((try dsimp only); first | assumption | trivial | go_keep)
        clear hK K hHeld2
        (try simp only [Act.put, List.setIfInBounds_toArray, List.set_cons_succ, List.set_cons_zero])
        refine wpAnyH_ready (rs := [11]) (by kernel_rfl) (by simp) ?_
        refine (AllReadyH.cons (o := ⟨some 97, .call { callee := .builtin .append, args := #[.tmp 87, .tmp 96], argTypes := #[57, 57] }, 57, "ref.go:424", #[⟨1, .data⟩, ⟨10, .data⟩, ⟨7, .chain⟩], none⟩) rfl (fun K hK => ?_) AllReadyH.nil)
        (refine step_app2 Tryz.underlying57 hj0 kz0 kz1 kz2 rfl (by omega) encPl_len encPl_one _ rfl (.tmp 87) (.tmp 96) rfl (Kx + 1) (.slice B0 S'.length b0) S'.length S' (by rfl) S5.oS [(⟨qs, q⟩ : Pl)] 1 1 _ rfl (by rfl) (one_pl w3 ⟨qs, q⟩) (by have := HL.out.n; omega) (by omega) (by have := S5.ltx; omega) ?_; intro A9 c9 w5 own5 hg5 hob5; have V5 := var_grown S5.cur S5.oS (by decide) hg5; have S6 := S5.appS rfl own5 hg5 hob5; have e7 := V5.cells 6; have z7 := V5.froz 6; have l7 := V5.lt)
        (try dsimp only)
        refine hK.out _ _ ?_ (fun hHeld4 => ?_)
        · first | trivial | ((try dsimp only); first | assumption | trivial | go_keep)
        clear hK K hHeld3
        (try simp only [Act.put, List.setIfInBounds_toArray, List.set_cons_succ, List.set_cons_zero])
        refine tk (i := 12) (oi := ⟨some 98, .fieldAddr 61 (.tmp 6) 6, 0, "ref.go:424", #[⟨0, .phase⟩, ⟨1, .phase⟩, ⟨2, .phase⟩, ⟨3, .phase⟩, ⟨4, .phase⟩, ⟨5, .phase⟩, ⟨6, .phase⟩, ⟨7, .phase⟩, ⟨8, .phase⟩, ⟨9, .phase⟩, ⟨10, .phase⟩, ⟨11, .phase⟩], none⟩) rfl ?_; (try simp only [Act.put, List.setIfInBounds_toArray, List.set_cons_succ, List.set_cons_zero])
        refine wpAnyH_ready (rs := [13]) (by kernel_rfl) (by simp) ?_
        refine (AllReadyH.cons (o := ⟨none, .store 57 (.tmp 98) (.tmp 97), 0, "ref.go:424", #[⟨12, .data⟩, ⟨11, .data⟩, ⟨11, .chain⟩, ⟨0, .phase⟩, ⟨1, .phase⟩, ⟨2, .phase⟩, ⟨3, .phase⟩, ⟨4, .phase⟩, ⟨5, .phase⟩, ⟨6, .phase⟩, ⟨7, .phase⟩, ⟨8, .phase⟩, ⟨9, .phase⟩, ⟨10, .phase⟩, ⟨11, .phase⟩], none⟩) rfl (fun K hK => ?_) AllReadyH.nil)
        go_simp
        skip
        (try dsimp only)
        refine hK.out _ _ ?_ (fun hHeld5 => ?_)
        · first | trivial | ((try dsimp only); first | assumption | trivial | go_keep)
        clear hK K hHeld4
        (try simp only [Act.put, List.setIfInBounds_toArray, List.set_cons_succ, List.set_cons_zero])
        refine wpAnyH_done (by kernel_rfl) ?_ _
        (try dsimp only)
        repeat (first | go_values | go_skip | go_guarded | go_step | go_upon)
        go_roundw
        case rel => exact ⟨i + 1, false, false, D, S' ++ [⟨qs, q⟩], T, by go_num, rfl, rfl, by omega, Lib.hid (HL.out.addS (p := ⟨qs, q⟩) hqi), Lib.hid S6.ex, HZ2⟩
        case measure => simp [intOf] <;> omega
      · skip
        go_simp
        (refine (HN.out _).mono ?_; rintro e w3 ⟨rfl, hb3⟩; have S4 := SD.out.below hb3; have c4 : w3.cell? ⟨Kx, 6, none⟩ = some (Value.slice B0 S'.length b0) := S4.cur.cells 6; clear hb3)
        (try dsimp only)
        refine hK.out _ _ ?_ (fun hHeld1 => ?_)
        · first | trivial | ((try dsimp only); first | assumption | trivial | go_keep)
        clear hK K hHeld0
        (try simp only [Act.put, List.setIfInBounds_toArray, List.set_cons_succ, List.set_cons_zero])
        refine tk (i := 8) (oi := ⟨some 94, .convert 56 3 (.tmp 93), 3, "ref.go:424", #[⟨7, .data⟩], none⟩) rfl ?_; (try simp only [Act.put, List.setIfInBounds_toArray, List.set_cons_succ, List.set_cons_zero])
        refine tk (i := 9) (oi := ⟨some 95, .build 64 #[(0, .tmp 90), (1, .tmp 94)], 64, "ref.go:424", #[⟨4, .data⟩, ⟨8, .data⟩], none⟩) rfl ?_; (try simp only [Act.put, List.setIfInBounds_toArray, List.set_cons_succ, List.set_cons_zero])
        refine wpAnyH_ready (rs := [1, 10]) (by kernel_rfl) (by simp) ?_
        refine (AllReadyH.cons (o := ⟨some 87, .load 57 (.tmp 86), 57, "ref.go:424", #[⟨0, .data⟩], none⟩) rfl (fun K hK => ?_) (AllReadyH.cons (o := ⟨some 96, .buildSlice 57 1 #[(0, .tmp 95)], 57, "ref.go:424", #[⟨9, .data⟩], none⟩) rfl (fun K hK => ?_) AllReadyH.nil))
        · skip
          go_simp
          skip
          (try dsimp only)
          refine hK.out _ _ ?_ (fun hHeld2 => ?_)
          · first | trivial | ((try dsimp only); first | assumption | trivial | go_keep)
          clear hK K hHeld1
          (try simp only [Act.put, List.setIfInBounds_toArray, List.set_cons_succ, List.set_cons_zero])
          refine wpAnyH_ready (rs := [10]) (by kernel_rfl) (by simp) ?_
          refine (AllReadyH.cons (o := ⟨some 96, .buildSlice 57 1 #[(0, .tmp 95)], 57, "ref.go:424", #[⟨9, .data⟩], none⟩) rfl (fun K hK => ?_) AllReadyH.nil)
          go_simp
          (have S5 := S4.below ((Below.refl _ _).alloc (Nat.le_refl _) (.cells #[.bool qs, .int .i64 q] 64)); have c5 : (w3.alloc (.cells #[.bool qs, .int .i64 q] 64)).cell? ⟨Kx, 6, none⟩ = some (Value.slice B0 S'.length b0) := S5.cur.cells 6)
          (try dsimp only)
          refine hK.out _ _ ?_ (fun hHeld3 => ?_)
          · first | trivial | ((try dsimp only); first | assumption | trivial | go_keep)
          clear hK K hHeld2
          (try simp only [Act.put, List.setIfInBounds_toArray, List.set_cons_succ, List.set_cons_zero])
          refine wpAnyH_ready (rs := [11]) (by kernel_rfl) (by simp) ?_
          refine (AllReadyH.cons (o := ⟨some 97, .call { callee := .builtin .append, args := #[.tmp 87, .tmp 96], argTypes := #[57, 57] }, 57, "ref.go:424", #[⟨1, .data⟩, ⟨10, .data⟩, ⟨7, .chain⟩], none⟩) rfl (fun K hK => ?_) AllReadyH.nil)
          (refine step_app2 Tryz.underlying57 hj0 kz0 kz1 kz2 rfl (by omega) encPl_len encPl_one _ rfl (.tmp 87) (.tmp 96) rfl (Kx + 1) (.slice B0 S'.length b0) S'.length S' (by rfl) S5.oS [(⟨qs, q⟩ : Pl)] 1 1 _ rfl (by rfl) (one_pl w3 ⟨qs, q⟩) (by have := HL.out.n; omega) (by omega) (by have := S5.ltx; omega) ?_; intro A9 c9 w5 own5 hg5 hob5; have V5 := var_grown S5.cur S5.oS (by decide) hg5; have S6 := S5.appS rfl own5 hg5 hob5; have e7 := V5.cells 6; have z7 := V5.froz 6; have l7 := V5.lt)
          (try dsimp only)
          refine hK.out _ _ ?_ (fun hHeld4 => ?_)
          · first | trivial | ((try dsimp only); first | assumption | trivial | go_keep)
          clear hK K hHeld3
          (try simp only [Act.put, List.setIfInBounds_toArray, List.set_cons_succ, List.set_cons_zero])
          refine tk (i := 12) (oi := ⟨some 98, .fieldAddr 61 (.tmp 6) 6, 0, "ref.go:424", #[⟨0, .phase⟩, ⟨1, .phase⟩, ⟨2, .phase⟩, ⟨3, .phase⟩, ⟨4, .phase⟩, ⟨5, .phase⟩, ⟨6, .phase⟩, ⟨7, .phase⟩, ⟨8, .phase⟩, ⟨9, .phase⟩, ⟨10, .phase⟩, ⟨11, .phase⟩], none⟩) rfl ?_; (try simp only [Act.put, List.setIfInBounds_toArray, List.set_cons_succ, List.set_cons_zero])
          refine wpAnyH_ready (rs := [13]) (by kernel_rfl) (by simp) ?_
          refine (AllReadyH.cons (o := ⟨none, .store 57 (.tmp 98) (.tmp 97), 0, "ref.go:424", #[⟨12, .data⟩, ⟨11, .data⟩, ⟨11, .chain⟩, ⟨0, .phase⟩, ⟨1, .phase⟩, ⟨2, .phase⟩, ⟨3, .phase⟩, ⟨4, .phase⟩, ⟨5, .phase⟩, ⟨6, .phase⟩, ⟨7, .phase⟩, ⟨8, .phase⟩, ⟨9, .phase⟩, ⟨10, .phase⟩, ⟨11, .phase⟩], none⟩) rfl (fun K hK => ?_) AllReadyH.nil)
          go_simp
          skip
          (try dsimp only)
          refine hK.out _ _ ?_ (fun hHeld5 => ?_)
          · first | trivial | ((try dsimp only); first | assumption | trivial | go_keep)
          clear hK K hHeld4
          (try simp only [Act.put, List.setIfInBounds_toArray, List.set_cons_succ, List.set_cons_zero])
          refine wpAnyH_done (by kernel_rfl) ?_ _
          (try dsimp only)
          repeat (first | go_values | go_skip | go_guarded | go_step | go_upon)
          go_roundw
          case rel => exact ⟨i + 1, false, false, D, S' ++ [⟨qs, q⟩], T, by go_num, rfl, rfl, by omega, Lib.hid (HL.out.addS (p := ⟨qs, q⟩) hqi), Lib.hid S6.ex, HZ2⟩
          case measure => simp [intOf] <;> omega
        · skip
          go_simp
          (have S5 := S4.below ((Below.refl _ _).alloc (Nat.le_refl _) (.cells #[.bool qs, .int .i64 q] 64)); have c5 : (w3.alloc (.cells #[.bool qs, .int .i64 q] 64)).cell? ⟨Kx, 6, none⟩ = some (Value.slice B0 S'.length b0) := S5.cur.cells 6)
          (try dsimp only)
          refine hK.out _ _ ?_ (fun hHeld2 => ?_)
          · first | trivial | ((try dsimp only); first | assumption | trivial | go_keep)
          clear hK K hHeld1
          (try simp only [Act.put, List.setIfInBounds_toArray, List.set_cons_succ, List.set_cons_zero])
          refine wpAnyH_ready (rs := [1]) (by kernel_rfl) (by simp) ?_
          refine (AllReadyH.cons (o := ⟨some 87, .load 57 (.tmp 86), 57, "ref.go:424", #[⟨0, .data⟩], none⟩) rfl (fun K hK => ?_) AllReadyH.nil)
          go_simp
          skip
          (try dsimp only)
          refine hK.out _ _ ?_ (fun hHeld3 => ?_)
          · first | trivial | ((try dsimp only); first | assumption | trivial | go_keep)
          clear hK K hHeld2
          (try simp only [Act.put, List.setIfInBounds_toArray, List.set_cons_succ, List.set_cons_zero])
          refine wpAnyH_ready (rs := [11]) (by kernel_rfl) (by simp) ?_
          refine (AllReadyH.cons (o := ⟨some 97, .call { callee := .builtin .append, args := #[.tmp 87, .tmp 96], argTypes := #[57, 57] }, 57, "ref.go:424", #[⟨1, .data⟩, ⟨10, .data⟩, ⟨7, .chain⟩], none⟩) rfl (fun K hK => ?_) AllReadyH.nil)
          (refine step_app2 Tryz.underlying57 hj0 kz0 kz1 kz2 rfl (by omega) encPl_len encPl_one _ rfl (.tmp 87) (.tmp 96) rfl (Kx + 1) (.slice B0 S'.length b0) S'.length S' (by rfl) S5.oS [(⟨qs, q⟩ : Pl)] 1 1 _ rfl (by rfl) (one_pl w3 ⟨qs, q⟩) (by have := HL.out.n; omega) (by omega) (by have := S5.ltx; omega) ?_; intro A9 c9 w5 own5 hg5 hob5; have V5 := var_grown S5.cur S5.oS (by decide) hg5; have S6 := S5.appS rfl own5 hg5 hob5; have e7 := V5.cells 6; have z7 := V5.froz 6; have l7 := V5.lt)
          (try dsimp only)
          refine hK.out _ _ ?_ (fun hHeld4 => ?_)
          · first | trivial | ((try dsimp only); first | assumption | trivial | go_keep)
          clear hK K hHeld3
          (try simp only [Act.put, List.setIfInBounds_toArray, List.set_cons_succ, List.set_cons_zero])
          refine tk (i := 12) (oi := ⟨some 98, .fieldAddr 61 (.tmp 6) 6, 0, "ref.go:424", #[⟨0, .phase⟩, ⟨1, .phase⟩, ⟨2, .phase⟩, ⟨3, .phase⟩, ⟨4, .phase⟩, ⟨5, .phase⟩, ⟨6, .phase⟩, ⟨7, .phase⟩, ⟨8, .phase⟩, ⟨9, .phase⟩, ⟨10, .phase⟩, ⟨11, .phase⟩], none⟩) rfl ?_; (try simp only [Act.put, List.setIfInBounds_toArray, List.set_cons_succ, List.set_cons_zero])
          refine wpAnyH_ready (rs := [13]) (by kernel_rfl) (by simp) ?_
          refine (AllReadyH.cons (o := ⟨none, .store 57 (.tmp 98) (.tmp 97), 0, "ref.go:424", #[⟨12, .data⟩, ⟨11, .data⟩, ⟨11, .chain⟩, ⟨0, .phase⟩, ⟨1, .phase⟩, ⟨2, .phase⟩, ⟨3, .phase⟩, ⟨4, .phase⟩, ⟨5, .phase⟩, ⟨6, .phase⟩, ⟨7, .phase⟩, ⟨8, .phase⟩, ⟨9, .phase⟩, ⟨10, .phase⟩, ⟨11, .phase⟩], none⟩) rfl (fun K hK => ?_) AllReadyH.nil)
          go_simp
          skip
          (try dsimp only)
          refine hK.out _ _ ?_ (fun hHeld5 => ?_)
          · first | trivial | ((try dsimp only); first | assumption | trivial | go_keep)
          clear hK K hHeld4
          (try simp only [Act.put, List.setIfInBounds_toArray, List.set_cons_succ, List.set_cons_zero])
          refine wpAnyH_done (by kernel_rfl) ?_ _
          (try dsimp only)
          repeat (first | go_values | go_skip | go_guarded | go_step | go_upon)
          go_roundw
          case rel => exact ⟨i + 1, false, false, D, S' ++ [⟨qs, q⟩], T, by go_num, rfl, rfl, by omega, Lib.hid (HL.out.addS (p := ⟨qs, q⟩) hqi), Lib.hid S6.ex, HZ2⟩
          case measure => simp [intOf] <;> omega
    · have hz3 := HZ2.out
      rw [if_pos rfl] at hz3
      replace HZ2 := Lib.hid hz3
      clear hz3
      go_upto_region 37 with fail
      clear f0
      refine wp_region_held_drew (S := (fun _ => True)) (by kernel_rfl) ?_ (fun hHeld0 => ?_)
      · first | assumption | go_keep
      refine at_anyN (F := fun W => Hid (NSt w W w.heap.size Kx (some ⟨g, o, none⟩) L ⟨(k : Int), v1, v2, v3, v4, D, S', T, v5⟩ A0 a0 B0 b0 T0 d0)) (Lib.hid (HS0.out.below (below_drewN _ 1))) ?_
      clear HS0
      intro W0 SD
      have c3 : W0.cell? ⟨Kx, 5, none⟩ = some (Value.slice A0 D.length a0) := SD.out.cur.cells 5
      refine tk (i := 0) (oi := ⟨some 122, .fieldAddr 61 (.tmp 6) 5, 0, "ref.go:422", #[], none⟩) rfl ?_; (try simp only [Act.put, List.setIfInBounds_toArray, List.set_cons_succ, List.set_cons_zero])
      refine tk (i := 2) (oi := ⟨some 124, .move (.tmp 12), 9, "ref.go:422", #[], none⟩) rfl ?_; (try simp only [Act.put, List.setIfInBounds_toArray, List.set_cons_succ, List.set_cons_zero])
      refine tk (i := 3) (oi := ⟨some 125, .index 9 (.tmp 124) (.const (.int .i64 0)), 5, "ref.go:422", #[⟨2, .data⟩], none⟩) rfl ?_; (try simp only [Act.put, List.setIfInBounds_toArray, List.set_cons_succ, List.set_cons_zero])
      refine tk (i := 4) (oi := ⟨some 126, .binOp .eql 5 (.tmp 125) (.const (.int .u8 115)) 5, 4, "ref.go:422", #[⟨3, .data⟩], none⟩) rfl ?_; (try simp only [Act.put, List.setIfInBounds_toArray, List.set_cons_succ, List.set_cons_zero])
      refine tk (i := 5) (oi := ⟨some 127, .move (.tmp 12), 9, "ref.go:422", #[], none⟩) rfl ?_; (try simp only [Act.put, List.setIfInBounds_toArray, List.set_cons_succ, List.set_cons_zero])
      refine tk (i := 6) (oi := ⟨some 128, .slice 9 (.tmp 127) (some (.const (.int .i64 1))) none none, 9, "ref.go:422", #[⟨5, .data⟩], none⟩) rfl ?_; (try simp only [Act.put, List.setIfInBounds_toArray, List.set_cons_succ, List.set_cons_zero])
      refine wpAnyH_ready (rs := [1, 7]) (by kernel_rfl) (by simp) ?_
      refine (AllReadyH.cons (o := ⟨some 123, .load 57 (.tmp 122), 57, "ref.go:422", #[⟨0, .data⟩], none⟩) rfl (fun K hK => ?_) (AllReadyH.cons (o := ⟨some 129, .call { callee := .value (.func 98), args := #[.tmp 128], argTypes := #[9] }, 56, "ref.go:422", #[⟨6, .data⟩], none⟩) rfl (fun K hK => ?_) AllReadyH.nil))
      · skip
        go_simp
        skip
        (try dsimp only)
        refine hK.out _ _ ?_ (fun hHeld1 => ?_)
        · first | trivial | ((try dsimp only); first | assumption | trivial | go_keep)
        clear hK K hHeld0
        (try simp only [Act.put, List.setIfInBounds_toArray, List.set_cons_succ, List.set_cons_zero])
        refine wpAnyH_ready (rs := [7]) (by kernel_rfl) (by simp) ?_
        refine (AllReadyH.cons (o := ⟨some 129, .call { callee := .value (.func 98), args := #[.tmp 128], argTypes := #[9] }, 56, "ref.go:422", #[⟨6, .data⟩], none⟩) rfl (fun K hK => ?_) AllReadyH.nil)
        go_simp
        (refine (HN.out _).mono ?_; rintro e w3 ⟨rfl, hb3⟩; have S4 := SD.out.below hb3; have c4 : w3.cell? ⟨Kx, 5, none⟩ = some (Value.slice A0 D.length a0) := S4.cur.cells 5; clear hb3)
        (try dsimp only)
        refine hK.out _ _ ?_ (fun hHeld2 => ?_)
        · first | trivial | ((try dsimp only); first | assumption | trivial | go_keep)
        clear hK K hHeld1
        (try simp only [Act.put, List.setIfInBounds_toArray, List.set_cons_succ, List.set_cons_zero])
        refine tk (i := 8) (oi := ⟨some 130, .convert 56 3 (.tmp 129), 3, "ref.go:422", #[⟨7, .data⟩], none⟩) rfl ?_; (try simp only [Act.put, List.setIfInBounds_toArray, List.set_cons_succ, List.set_cons_zero])
        refine tk (i := 9) (oi := ⟨some 131, .build 64 #[(0, .tmp 126), (1, .tmp 130)], 64, "ref.go:422", #[⟨4, .data⟩, ⟨8, .data⟩], none⟩) rfl ?_; (try simp only [Act.put, List.setIfInBounds_toArray, List.set_cons_succ, List.set_cons_zero])
        refine wpAnyH_ready (rs := [10]) (by kernel_rfl) (by simp) ?_
        refine (AllReadyH.cons (o := ⟨some 132, .buildSlice 57 1 #[(0, .tmp 131)], 57, "ref.go:422", #[⟨9, .data⟩], none⟩) rfl (fun K hK => ?_) AllReadyH.nil)
        go_simp
        (have S5 := S4.below ((Below.refl _ _).alloc (Nat.le_refl _) (.cells #[.bool qs, .int .i64 q] 64)); have c5 : (w3.alloc (.cells #[.bool qs, .int .i64 q] 64)).cell? ⟨Kx, 5, none⟩ = some (Value.slice A0 D.length a0) := S5.cur.cells 5)
        (try dsimp only)
        refine hK.out _ _ ?_ (fun hHeld3 => ?_)
        · first | trivial | ((try dsimp only); first | assumption | trivial | go_keep)
        clear hK K hHeld2
        (try simp only [Act.put, List.setIfInBounds_toArray, List.set_cons_succ, List.set_cons_zero])
        refine wpAnyH_ready (rs := [11]) (by kernel_rfl) (by simp) ?_
        refine (AllReadyH.cons (o := ⟨some 133, .call { callee := .builtin .append, args := #[.tmp 123, .tmp 132], argTypes := #[57, 57] }, 57, "ref.go:422", #[⟨1, .data⟩, ⟨10, .data⟩, ⟨7, .chain⟩], none⟩) rfl (fun K hK => ?_) AllReadyH.nil)
        (refine step_app2 Tryz.underlying57 hj0 kz0 kz1 kz2 rfl (by omega) encPl_len encPl_one _ rfl (.tmp 123) (.tmp 132) rfl (Kx + 1) (.slice A0 D.length a0) D.length D (by rfl) S5.oD [(⟨qs, q⟩ : Pl)] 1 1 _ rfl (by rfl) (one_pl w3 ⟨qs, q⟩) (by have := HL.out.n; omega) (by omega) (by have := S5.ltx; omega) ?_; intro A9 c9 w5 own5 hg5 hob5; have V5 := var_grown S5.cur S5.oD (by decide) hg5; have S6 := S5.appD rfl own5 hg5 hob5; have e7 := V5.cells 5; have z7 := V5.froz 5; have l7 := V5.lt)
        (try dsimp only)
        refine hK.out _ _ ?_ (fun hHeld4 => ?_)
        · first | trivial | ((try dsimp only); first | assumption | trivial | go_keep)
        clear hK K hHeld3
        (try simp only [Act.put, List.setIfInBounds_toArray, List.set_cons_succ, List.set_cons_zero])
        refine tk (i := 12) (oi := ⟨some 134, .fieldAddr 61 (.tmp 6) 5, 0, "ref.go:422", #[⟨0, .phase⟩, ⟨1, .phase⟩, ⟨2, .phase⟩, ⟨3, .phase⟩, ⟨4, .phase⟩, ⟨5, .phase⟩, ⟨6, .phase⟩, ⟨7, .phase⟩, ⟨8, .phase⟩, ⟨9, .phase⟩, ⟨10, .phase⟩, ⟨11, .phase⟩], none⟩) rfl ?_; (try simp only [Act.put, List.setIfInBounds_toArray, List.set_cons_succ, List.set_cons_zero])
        refine wpAnyH_ready (rs := [13]) (by kernel_rfl) (by simp) ?_
        refine (AllReadyH.cons (o := ⟨none, .store 57 (.tmp 134) (.tmp 133), 0, "ref.go:422", #[⟨12, .data⟩, ⟨11, .data⟩, ⟨11, .chain⟩, ⟨0, .phase⟩, ⟨1, .phase⟩, ⟨2, .phase⟩, ⟨3, .phase⟩, ⟨4, .phase⟩, ⟨5, .phase⟩, ⟨6, .phase⟩, ⟨7, .phase⟩, ⟨8, .phase⟩, ⟨9, .phase⟩, ⟨10, .phase⟩, ⟨11, .phase⟩], none⟩) rfl (fun K hK => ?_) AllReadyH.nil)
        go_simp
        skip
        (try dsimp only)
        refine hK.out _ _ ?_ (fun hHeld5 => ?_)
        · first | trivial | ((try dsimp only); first | assumption | trivial | go_keep)
        clear hK K hHeld4
        (try simp only [Act.put, List.setIfInBounds_toArray, List.set_cons_succ, List.set_cons_zero])
        refine wpAnyH_done (by kernel_rfl) ?_ _
        (try dsimp only)
        repeat (first | go_values | go_skip | go_guarded | go_step | go_upon)
        go_roundw
        case rel => exact ⟨i + 1, false, true, D ++ [⟨qs, q⟩], S', T, by go_num, rfl, rfl, by omega, Lib.hid (HL.out.addD (p := ⟨qs, q⟩) hqi), Lib.hid S6.ex, HZ2⟩
        case measure => simp [intOf] <;> omega
      · skip
        go_simp
        (refine (HN.out _).mono ?_; rintro e w3 ⟨rfl, hb3⟩; have S4 := SD.out.below hb3; have c4 : w3.cell? ⟨Kx, 5, none⟩ = some (Value.slice A0 D.length a0) := S4.cur.cells 5; clear hb3)
        (try dsimp only)
        refine hK.out _ _ ?_ (fun hHeld1 => ?_)
        · first | trivial | ((try dsimp only); first | assumption | trivial | go_keep)
        clear hK K hHeld0
        (try simp only [Act.put, List.setIfInBounds_toArray, List.set_cons_succ, List.set_cons_zero])
        refine tk (i := 8) (oi := ⟨some 130, .convert 56 3 (.tmp 129), 3, "ref.go:422", #[⟨7, .data⟩], none⟩) rfl ?_; (try simp only [Act.put, List.setIfInBounds_toArray, List.set_cons_succ, List.set_cons_zero])
        refine tk (i := 9) (oi := ⟨some 131, .build 64 #[(0, .tmp 126), (1, .tmp 130)], 64, "ref.go:422", #[⟨4, .data⟩, ⟨8, .data⟩], none⟩) rfl ?_; (try simp only [Act.put, List.setIfInBounds_toArray, List.set_cons_succ, List.set_cons_zero])
        refine wpAnyH_ready (rs := [1, 10]) (by kernel_rfl) (by simp) ?_
        refine (AllReadyH.cons (o := ⟨some 123, .load 57 (.tmp 122), 57, "ref.go:422", #[⟨0, .data⟩], none⟩) rfl (fun K hK => ?_) (AllReadyH.cons (o := ⟨some 132, .buildSlice 57 1 #[(0, .tmp 131)], 57, "ref.go:422", #[⟨9, .data⟩], none⟩) rfl (fun K hK => ?_) AllReadyH.nil))
        · skip
          go_simp
          skip
          (try dsimp only)
          refine hK.out _ _ ?_ (fun hHeld2 => ?_)
          · first | trivial | ((try dsimp only); first | assumption | trivial | go_keep)
          clear hK K hHeld1
          (try simp only [Act.put, List.setIfInBounds_toArray, List.set_cons_succ, List.set_cons_zero])
          refine wpAnyH_ready (rs := [10]) (by kernel_rfl) (by simp) ?_
          refine (AllReadyH.cons (o := ⟨some 132, .buildSlice 57 1 #[(0, .tmp 131)], 57, "ref.go:422", #[⟨9, .data⟩], none⟩) rfl (fun K hK => ?_) AllReadyH.nil)
          go_simp
          (have S5 := S4.below ((Below.refl _ _).alloc (Nat.le_refl _) (.cells #[.bool qs, .int .i64 q] 64)); have c5 : (w3.alloc (.cells #[.bool qs, .int .i64 q] 64)).cell? ⟨Kx, 5, none⟩ = some (Value.slice A0 D.length a0) := S5.cur.cells 5)
          (try dsimp only)
          refine hK.out _ _ ?_ (fun hHeld3 => ?_)
          · first | trivial | ((try dsimp only); first | assumption | trivial | go_keep)
          clear hK K hHeld2
          (try simp only [Act.put, List.setIfInBounds_toArray, List.set_cons_succ, List.set_cons_zero])
          refine wpAnyH_ready (rs := [11]) (by kernel_rfl) (by simp) ?_
          refine (AllReadyH.cons (o := ⟨some 133, .call { callee := .builtin .append, args := #[.tmp 123, .tmp 132], argTypes := #[57, 57] }, 57, "ref.go:422", #[⟨1, .data⟩, ⟨10, .data⟩, ⟨7, .chain⟩], none⟩) rfl (fun K hK => ?_) AllReadyH.nil)
          (refine step_app2 Tryz.underlying57 hj0 kz0 kz1 kz2 rfl (by omega) encPl_len encPl_one _ rfl (.tmp 123) (.tmp 132) rfl (Kx + 1) (.slice A0 D.length a0) D.length D (by rfl) S5.oD [(⟨qs, q⟩ : Pl)] 1 1 _ rfl (by rfl) (one_pl w3 ⟨qs, q⟩) (by have := HL.out.n; omega) (by omega) (by have := S5.ltx; omega) ?_; intro A9 c9 w5 own5 hg5 hob5; have V5 := var_grown S5.cur S5.oD (by decide) hg5; have S6 := S5.appD rfl own5 hg5 hob5; have e7 := V5.cells 5; have z7 := V5.froz 5; have l7 := V5.lt)
          (try dsimp only)
          refine hK.out _ _ ?_ (fun hHeld4 => ?_)
          · first | trivial | ((try dsimp only); first | assumption | trivial | go_keep)
          clear hK K hHeld3
          (try simp only [Act.put, List.setIfInBounds_toArray, List.set_cons_succ, List.set_cons_zero])
          refine tk (i := 12) (oi := ⟨some 134, .fieldAddr 61 (.tmp 6) 5, 0, "ref.go:422", #[⟨0, .phase⟩, ⟨1, .phase⟩, ⟨2, .phase⟩, ⟨3, .phase⟩, ⟨4, .phase⟩, ⟨5, .phase⟩, ⟨6, .phase⟩, ⟨7, .phase⟩, ⟨8, .phase⟩, ⟨9, .phase⟩, ⟨10, .phase⟩, ⟨11, .phase⟩], none⟩) rfl ?_; (try simp only [Act.put, List.setIfInBounds_toArray, List.set_cons_succ, List.set_cons_zero])
          refine wpAnyH_ready (rs := [13]) (by kernel_rfl) (by simp) ?_
          refine (AllReadyH.cons (o := ⟨none, .store 57 (.tmp 134) (.tmp 133), 0, "ref.go:422", #[⟨12, .data⟩, ⟨11, .data⟩, ⟨11, .chain⟩, ⟨0, .phase⟩, ⟨1, .phase⟩, ⟨2, .phase⟩, ⟨3, .phase⟩, ⟨4, .phase⟩, ⟨5, .phase⟩, ⟨6, .phase⟩, ⟨7, .phase⟩, ⟨8, .phase⟩, ⟨9, .phase⟩, ⟨10, .phase⟩, ⟨11, .phase⟩], none⟩) rfl (fun K hK => ?_) AllReadyH.nil)
          go_simp
          skip
          (try dsimp only)
          refine hK.out _ _ ?_ (fun hHeld5 => ?_)
          · first | trivial | ((try dsimp only); first | assumption | trivial | go_keep)
          clear hK K hHeld4
          (try simp only [Act.put, List.setIfInBounds_toArray, List.set_cons_succ, List.set_cons_zero])
          refine wpAnyH_done (by kernel_rfl) ?_ _
          (try dsimp only)
          repeat (first | go_values | go_skip | go_guarded | go_step | go_upon)
          go_roundw
          case rel => exact ⟨i + 1, false, true, D ++ [⟨qs, q⟩], S', T, by go_num, rfl, rfl, by omega, Lib.hid (HL.out.addD (p := ⟨qs, q⟩) hqi), Lib.hid S6.ex, HZ2⟩
          case measure => simp [intOf] <;> omega
        · skip
          go_simp
          (have S5 := S4.below ((Below.refl _ _).alloc (Nat.le_refl _) (.cells #[.bool qs, .int .i64 q] 64)); have c5 : (w3.alloc (.cells #[.bool qs, .int .i64 q] 64)).cell? ⟨Kx, 5, none⟩ = some (Value.slice A0 D.length a0) := S5.cur.cells 5)
          (try dsimp only)
          refine hK.out _ _ ?_ (fun hHeld2 => ?_)
          · first | trivial | ((try dsimp only); first | assumption | trivial | go_keep)
          clear hK K hHeld1
          (try simp only [Act.put, List.setIfInBounds_toArray, List.set_cons_succ, List.set_cons_zero])
          refine wpAnyH_ready (rs := [1]) (by kernel_rfl) (by simp) ?_
          refine (AllReadyH.cons (o := ⟨some 123, .load 57 (.tmp 122), 57, "ref.go:422", #[⟨0, .data⟩], none⟩) rfl (fun K hK => ?_) AllReadyH.nil)
          go_simp
          skip
          (try dsimp only)
          refine hK.out _ _ ?_ (fun hHeld3 => ?_)
          · first | trivial | ((try dsimp only); first | assumption | trivial | go_keep)
          clear hK K hHeld2
          (try simp only [Act.put, List.setIfInBounds_toArray, List.set_cons_succ, List.set_cons_zero])
          refine wpAnyH_ready (rs := [11]) (by kernel_rfl) (by simp) ?_
          refine (AllReadyH.cons (o := ⟨some 133, .call { callee := .builtin .append, args := #[.tmp 123, .tmp 132], argTypes := #[57, 57] }, 57, "ref.go:422", #[⟨1, .data⟩, ⟨10, .data⟩, ⟨7, .chain⟩], none⟩) rfl (fun K hK => ?_) AllReadyH.nil)
          (refine step_app2 Tryz.underlying57 hj0 kz0 kz1 kz2 rfl (by omega) encPl_len encPl_one _ rfl (.tmp 123) (.tmp 132) rfl (Kx + 1) (.slice A0 D.length a0) D.length D (by rfl) S5.oD [(⟨qs, q⟩ : Pl)] 1 1 _ rfl (by rfl) (one_pl w3 ⟨qs, q⟩) (by have := HL.out.n; omega) (by omega) (by have := S5.ltx; omega) ?_; intro A9 c9 w5 own5 hg5 hob5; have V5 := var_grown S5.cur S5.oD (by decide) hg5; have S6 := S5.appD rfl own5 hg5 hob5; have e7 := V5.cells 5; have z7 := V5.froz 5; have l7 := V5.lt)
          (try dsimp only)
          refine hK.out _ _ ?_ (fun hHeld4 => ?_)
          · first | trivial | ((try dsimp only); first | assumption | trivial | go_keep)
          clear hK K hHeld3
          (try simp only [Act.put, List.setIfInBounds_toArray, List.set_cons_succ, List.set_cons_zero])
          refine tk (i := 12) (oi := ⟨some 134, .fieldAddr 61 (.tmp 6) 5, 0, "ref.go:422", #[⟨0, .phase⟩, ⟨1, .phase⟩, ⟨2, .phase⟩, ⟨3, .phase⟩, ⟨4, .phase⟩, ⟨5, .phase⟩, ⟨6, .phase⟩, ⟨7, .phase⟩, ⟨8, .phase⟩, ⟨9, .phase⟩, ⟨10, .phase⟩, ⟨11, .phase⟩], none⟩) rfl ?_; (try simp only [Act.put, List.setIfInBounds_toArray, List.set_cons_succ, List.set_cons_zero])
          refine wpAnyH_ready (rs := [13]) (by kernel_rfl) (by simp) ?_
          refine (AllReadyH.cons (o := ⟨none, .store 57 (.tmp 134) (.tmp 133), 0, "ref.go:422", #[⟨12, .data⟩, ⟨11, .data⟩, ⟨11, .chain⟩, ⟨0, .phase⟩, ⟨1, .phase⟩, ⟨2, .phase⟩, ⟨3, .phase⟩, ⟨4, .phase⟩, ⟨5, .phase⟩, ⟨6, .phase⟩, ⟨7, .phase⟩, ⟨8, .phase⟩, ⟨9, .phase⟩, ⟨10, .phase⟩, ⟨11, .phase⟩], none⟩) rfl (fun K hK => ?_) AllReadyH.nil)
          go_simp
          skip
          (try dsimp only)
          refine hK.out _ _ ?_ (fun hHeld5 => ?_)
          · first | trivial | ((try dsimp only); first | assumption | trivial | go_keep)
          clear hK K hHeld4
          (try simp only [Act.put, List.setIfInBounds_toArray, List.set_cons_succ, List.set_cons_zero])
          refine wpAnyH_done (by kernel_rfl) ?_ _
          (try dsimp only)
          repeat (first | go_values | go_skip | go_guarded | go_step | go_upon)
          go_roundw
          case rel => exact ⟨i + 1, false, true, D ++ [⟨qs, q⟩], S', T, by go_num, rfl, rfl, by omega, Lib.hid (HL.out.addD (p := ⟨qs, q⟩) hqi), Lib.hid S6.ex, HZ2⟩
          case measure => simp [intOf] <;> omega

end Go.Proofs.YtadnfekogmjieaaGreatDoor
