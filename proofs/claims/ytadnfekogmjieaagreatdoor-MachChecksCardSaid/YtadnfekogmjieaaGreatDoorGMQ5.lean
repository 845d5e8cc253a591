/-
  Layer 51, the program: instruction. (Printed by gen_mq5.py.)
-/
import Derived.Test.YtadnfekogmjieaaGreatDoorGTj
import Derived.Test.YtadnfekogmjieaaGreatDoorGMQ3
import Derived.Test.YtadnfekogmjieaaGreatDoorGMS4
import Derived.Test.YtadnfekogmjieaaGreatDoorGTk
import Derived.Deep.Cut
import Derived.Deep.CutRange
import Derived.Deep.RegionHeld3
set_option linter.unusedVariables false
set_option linter.unusedSimpArgs false
namespace Go.Proofs.YtadnfekogmjieaaGreatDoor
open Go.RowKit
open Mc (Pl Mi Mf)
namespace Mc
theorem join_part (sep : W) : ∀ (L : List W) (x : W), x ∈ L → x.length ≤ (Lib.join L sep).length
  | [], x, h => by cases h
  | [y], x, h => by rw [Lib.join_one, List.mem_singleton.1 h]; exact Nat.le_refl _
  | y :: z :: L, x, h => by
    rw [Lib.join_cons, joinTail_ne _ (by simp), List.length_append, List.length_append]
    rcases List.mem_cons.1 h with rfl | h
    · omega
    · have := join_part sep (z :: L) x h; omega
theorem split_words (s sep : W) (hs : sep ≠ []) : ∀ x ∈ Lib.split s sep, x.length ≤ s.length := fun x hx => by
  have h := join_part sep _ x hx
  rw [(join_split sep hs s.length s (Nat.le_refl _)).1] at h
  exact h
def hdB (c : W) (l : List W) : Bool := l.head? == some c
theorem hdB_true {c : W} {l : List W} (h : hdB c l = true) : ∃ t, l = c :: t := by
  unfold hdB at h
  rcases l with _ | ⟨u, t⟩
  · simp at h
  · simp at h; exact ⟨t, by rw [h]⟩
theorem hdB_no {c : W} {l : List W} (h : hdB c l = false) : l.head? ≠ some c := by
  unfold hdB at h; simpa using h
end Mc
theorem found_eq (s : Mc.W) : found (Opc.seek s Opc.all) = .tuple #[.int .i64 (Mc.opFind s).1, .bool (Mc.opFind s).2] := by
  unfold Mc.opFind
  rcases Opc.seek s Opc.all with _ | _ <;> rfl
theorem put9 {W : World} {K : Nat} {t : TypeId} {a0 a1 a2 a3 a4 a5 a6 a7 a8 : Value} (h : Var W K #[a0, a1, a2, a3, a4, a5, a6, a7, a8] t) (b0 b1 b2 b3 b4 b5 b6 b7 b8 : Value) :
    Var (((((((((W.setCell ⟨K, 0, none⟩ b0).setCell ⟨K, 1, none⟩ b1).setCell ⟨K, 2, none⟩ b2).setCell ⟨K, 3, none⟩ b3).setCell ⟨K, 4, none⟩ b4).setCell ⟨K, 5, none⟩ b5).setCell ⟨K, 6, none⟩ b6).setCell ⟨K, 7, none⟩ b7).setCell ⟨K, 8, none⟩ b8) K #[b0, b1, b2, b3, b4, b5, b6, b7, b8] t ∧
    W.grownBy (((((((((W.setCell ⟨K, 0, none⟩ b0).setCell ⟨K, 1, none⟩ b1).setCell ⟨K, 2, none⟩ b2).setCell ⟨K, 3, none⟩ b3).setCell ⟨K, 4, none⟩ b4).setCell ⟨K, 5, none⟩ b5).setCell ⟨K, 6, none⟩ b6).setCell ⟨K, 7, none⟩ b7).setCell ⟨K, 8, none⟩ b8) (some K) :=
  ⟨by have h7 := ((((((((h.set 0 b0).set 1 b1).set 2 b2).set 3 b3).set 4 b4).set 5 b5).set 6 b6).set 7 b7).set 8 b8; simp only [List.setIfInBounds_toArray, List.set_cons_zero, List.set_cons_succ] at h7; exact h7,
   (grown_set _ _ _ _).trans ((grown_set _ _ _ _).trans ((grown_set _ _ _ _).trans ((grown_set _ _ _ _).trans ((grown_set _ _ _ _).trans ((grown_set _ _ _ _).trans ((grown_set _ _ _ _).trans ((grown_set _ _ _ _).trans (grown_set _ _ _ _))))))))⟩

set_option maxHeartbeats 16000000 in
set_option maxRecDepth 100000 in
theorem minstr_any (s : Mc.W) (hs : s.length ≤ 90000) (w : World) (G : GlobM w) :
    Calls Tryz.prog 49 #[.string ⟨s.toArray⟩] w fun e w' => IOut w.heap.size (Mc.insP s) e w' ∧ Below w.heap.size w w' := by
  have HS := Lib.hid (fun W (G : Glob W) => split_any s [32] (by omega) (by simp) W G)
  have hLl := Mc.split_len s [32] (by simp)
  have hLw := Mc.split_words s [32] (by simp)
  have hLn := (Mc.join_split [32] (by simp) s.length s (Nat.le_refl _)).2
  obtain ⟨R, hR⟩ : ∃ x, Mc.insP s = x := ⟨_, rfl⟩
  rw [hR]
  unfold Mc.insP at hR
  obtain ⟨L, hL⟩ : ∃ x, Lib.split s [32] = x := ⟨_, rfl⟩
  rw [hL] at HS hLl hLw hLn hR
  clear hL
  have HNew := Lib.hid (fun (W : World) (A : Option Addr) (h : RdS W W.heap.size A 1 encS L) => RAt.new ⟨by omega, fun x hx => by have := hLw x hx; omega⟩ h)
  have HNx := Lib.hid (fun N K W (h : RAt W N K L true) => word_any N K L true W h)
  rw [show (true && !L.isEmpty) = true by simp [hLn]] at HNx
  obtain ⟨hd, hhd⟩ : ∃ x, L.headD [] = x := ⟨_, rfl⟩
  obtain ⟨tl, htl⟩ : ∃ x, L.tail = x := ⟨_, rfl⟩
  rw [hhd, htl] at HNx hR
  have htl2 : tl.length ≤ 100000 := by rw [← htl, List.length_tail]; omega
  clear hhd htl hLl hLw hLn
  have HR := Lib.hid hR
  have HG := Lib.hid G
  clear hR G
  have HB0 := Lib.hid ((Below.refl w.heap.size w).alloc (Nat.le_refl _) (.cells #[.int .i64 0, .int .i64 0, .int .i64 0, .int .i64 0, .int .u64 0, .slice none 0 0, .slice none 0 0, .slice none 0 0, .int .i64 0] 61))
  go_enter Tryz.func49, Tryz.ntmps49
  go_upto_region 3 with (first
    | (go_at_call 47; refine (HS.out _ (HG.out.g.below HB0.out)).mono ?_; rintro e w1 ⟨⟨A0, rfl, hrd⟩, hb⟩; have v1 := (Var.new w #[.int .i64 0, .int .i64 0, .int .i64 0, .int .i64 0, .int .u64 0, .slice none 0 0, .slice none 0 0, .slice none 0 0, .int .i64 0] 61).below hb (by simp); have b1 := HB0.out.trans (hb.mono (by simp)); have hk1 : w.heap.size + 1 ≤ w1.heap.size := (by have := hb.size; simp at this; omega); have r0 := HNew.out _ _ hrd; have b2 := b1.alloc b1.size (.cells #[.slice A0 L.length L.length, .bool true] 165); have v2 := v1.alloc (.cells #[.slice A0 L.length L.length, .bool true] 165); clear hrd hb v1 b1)
    | (go_at_call 92; refine (HNx.out _ _ _ r0).mono ?_; rintro e w2 ⟨rfl, r1, g1⟩; have b3 := below_grown b2 g1 b2.size (by omega); have v3 := var_stay v2 g1 (by omega); clear r0 b2 v2 g1))
  obtain ⟨N, hN⟩ : ∃ N, w1.heap.size = N := ⟨_, rfl⟩
  rw [hN] at r1 hk1
  simp only [hN]
  refine at_code (F := fun W => Hid (Below w.heap.size w W) ∧ Hid (Var W w.heap.size #[.int .i64 0, .int .i64 0, .int .i64 0, .int .i64 0, .int .u64 0, .slice none 0 0, .slice none 0 0, .slice none 0 0, .int .i64 0] 61) ∧ Hid (RAt W N N tl true)) ⟨Lib.hid b3, Lib.hid v3, Lib.hid r1⟩ ?_
  clear v3 b3 r1 HS HNew HNx HB0 hN
  rintro W ⟨HB, HV, HRd⟩
  have HA := Lib.hid (fun (k : Nat) (hk : k ≤ 23) => (HG.out.r.below HB.out).at_ hk)
  go_wp2_with fail
  go_loopw [6, 7, 16] (fun s6 s7 s16 wr => ∃ i : Nat, s6 = .int .i64 (Mc.kindTo hd i) ∧ s16 = .int .i64 (i : Int) ∧ i ≤ 24 ∧ wr = W) (fun s6 s7 s16 _ => 24 - (intOf s16).toNat)
  case atStart => exact ⟨0, rfl, rfl, by omega, rfl⟩
  case round =>
    obtain ⟨i, rfl, rfl, hi, hwr⟩ := hrel
    obtain rfl := hwr.symm
    by_cases hia : i < 24
    · have x0 : (i : Int) < 24 := by omega
      have x2 : (0 : Int) ≤ (i : Int) := by omega
      obtain ⟨f0, -⟩ := HA.out i (by omega)
      have hkt : Mc.kindTo hd (i + 1) = if (Mc.row (i : Int)).w = hd then (i : Int) else Mc.kindTo hd i := rfl
      obtain ⟨u, hu⟩ : ∃ u, (Mc.row (i : Int)).w = u := ⟨_, rfl⟩
      rw [hu] at f0 hkt
      clear hu HA
      by_cases he : u = hd
      · subst he
        rw [if_pos rfl] at hkt
        have HK := Lib.hid hkt
        clear hkt
        go_wp2_with fail
        go_roundw
        case rel => exact ⟨i + 1, by rw [HK.out], by go_num, by omega, by trivial⟩
        case measure => simp [intOf]; omega
      · rw [if_neg he] at hkt
        have hbe := beq_no he
        have hq2 : (u == hd) = false := by simpa using he
        have HK := Lib.hid hkt
        clear hkt he
        go_wp2_with fail
        go_roundw
        case rel => exact ⟨i + 1, by rw [HK.out], by go_num, by omega, by trivial⟩
        case measure => simp [intOf]; omega
    obtain rfl : i = 24 := by omega
    have x24 : ¬ ((24 : Nat) : Int) < 24 := by omega
    have e24 : Mc.kindTo hd 24 = Mc.kindO hd := rfl
    rw [e24]
    rcases Mc.kindO_cases hd with hk | ⟨k, hk23, hk, -⟩
    · rw [hk]
      have hRR := HR.out
      rw [hk, if_pos (by decide)] at hRR
      have HRR := Lib.hid hRR
      obtain ⟨q0, q1, q2, q3, q4, q5, q6, q7, q8⟩ := cells9 HV.out
      have hlt := HV.out.lt
      have z0 := HV.out.froz 0
      have z1 := HV.out.froz 1
      have z2 := HV.out.froz 2
      have z3 := HV.out.froz 3
      have z4 := HV.out.froz 4
      have z5 := HV.out.froz 5
      have z6 := HV.out.froz 6
      have z7 := HV.out.froz 7
      have z8 := HV.out.froz 8
      clear hRR HR HA hk e24 hia
      go_wp2_with fail
      have hp := put9 HV.out (.int .i64 0) (.int .i64 0) (.int .i64 0) (.int .i64 0) (.int .u64 0) (.slice none 0 0) (.slice none 0 0) (.slice none 0 0) (.int .i64 0)
      refine bodyPost_ret (results_cell_row_tmp rfl _ _ w.heap.size _ _ (0, 0) _ rfl hp.1 Tryz.underlying61 rfl (by kernel_rfl)) rfl ?_
      obtain rfl := HRR.out
      exact ⟨⟨none, 0, none, 0, none, 0, rfl, ⟨RdT.nil_, RdT.nil_, RdT.nil_⟩, Nat.le_refl _⟩, below_grown HB.out hp.2 HB.out.size (Nat.le_refl _)⟩
    rw [hk]
    have hRR := HR.out
    rw [hk, if_neg (by omega)] at hRR
    have b1 := HB.out.alloc HB.out.size (.cells #[.int .i64 (k : Int), .int .i64 0, .int .i64 0, .int .i64 0, .int .u64 0, .slice none 0 0, .slice none 0 0, .slice none 0 0, .int .i64 0] 61)
    obtain ⟨r0, r1, r2, r3, r4, r5⟩ := (HG.out.r.below b1).at_ hk23
    have hok := Mc.insF_ok (k : Int) (by unfold InR; omega) ⟨tl, true⟩ htl2
    unfold Mc.insF at hRR hok
    dsimp only at hRR hok
    obtain ⟨⟨rw_, ro, ra, rb, rn, rt⟩, hrow⟩ : ∃ r, Mc.row (k : Int) = r := ⟨_, rfl⟩
    rw [hrow] at hRR hok r0 r1 r2 r3 r4 r5
    dsimp only at hRR hok r0 r1 r2 r3 r4 r5
    have HIN := Lib.hid hRR
    have HOK := Lib.hid hok
    have x0 : (0 : Int) ≤ (k : Int) := by omega
    have x1 : (k : Int) < 24 := by omega
    have x2 : ¬ (k : Int) < 0 := by omega
    have b2 := b1.alloc b1.size (.cells #[.string ⟨rw_.toArray⟩, .bool ro, .bool ra, .bool rb, .bool rn, .bool rt] 143)
    have hltN := HRd.out.lt
    have hf0 : ISt w ((W.alloc (.cells #[.int .i64 (k : Int), .int .i64 0, .int .i64 0, .int .i64 0, .int .u64 0, .slice none 0 0, .slice none 0 0, .slice none 0 0, .int .i64 0] 61)).alloc (.cells #[.string ⟨rw_.toArray⟩, .bool ro, .bool ra, .bool rb, .bool rn, .bool rt] 143)) w.heap.size N W.heap.size (W.heap.size + 1) #[.string ⟨rw_.toArray⟩, .bool ro, .bool ra, .bool rb, .bool rn, .bool rt] ⟨(k : Int), 0, 0, 0, 0, [], [], [], 0⟩ ⟨tl, true⟩ none 0 none 0 none 0 :=
      ⟨b2, (HV.out.alloc _).alloc _, (HRd.out.below ((Below.refl _ _).alloc (Nat.le_refl _) _)).below ((Below.refl _ _).alloc (Nat.le_refl _) _), (Var.new _ _ _).alloc _, by have h := Var.new (W.alloc (.cells #[.int .i64 (k : Int), .int .i64 0, .int .i64 0, .int .i64 0, .int .u64 0, .slice none 0 0, .slice none 0 0, .slice none 0 0, .int .i64 0] 61)) #[.string ⟨rw_.toArray⟩, .bool ro, .bool ra, .bool rb, .bool rn, .bool rt] 143; simpa using h, RowP.nil_, RowP.nil_, World.ownsRow_nil _ _ _ _, Nat.le_refl _, by omega, hltN, by omega, Nat.le_refl _⟩
    have HF0 := Lib.hid hf0
    clear hRR hok b1 b2 hf0 hrow hia e24 HR HA hk
    go_upto_region 14 with fail
    clear r0 r1 r2 r3 r4 r5
    refine at_code (F := fun W' => IEx w W' w.heap.size N W.heap.size (W.heap.size + 1) #[.string ⟨rw_.toArray⟩, .bool ro, .bool ra, .bool rb, .bool rn, .bool rt] ⟨(k : Int), 0, 0, 0, 0, [], [], [], 0⟩ ⟨tl, true⟩) HF0.out.ex ?_
    clear HF0 HB HV HRd
    obtain ⟨Kx, hKx⟩ : ∃ Kx, W.heap.size = Kx := ⟨_, rfl⟩
    obtain ⟨Ky, hKy⟩ : ∃ Ky, Kx + 1 = Ky := ⟨_, rfl⟩
    simp only [hKx, hKy]
    clear hKx hKy
    obtain ⟨rok0, hrok⟩ : ∃ b, b = true := ⟨_, rfl⟩
    have hin := HIN.out
    have hok := HOK.out
    clear HIN HOK
    rw [← hrok] at hin hok ⊢
    obtain ⟨rl0, hrl⟩ : ∃ x, tl = x := ⟨_, rfl⟩
    rw [hrl] at hin hok ⊢
    clear hrok hrl htl2 x0 x1 x2 x24 hi
    intro W S
    obtain ⟨⟨v1, ⟨rl1, rok1⟩⟩, ho⟩ : ∃ x, Mc.optOp ro ⟨rl0, rok0⟩ = x := ⟨_, rfl⟩
    rw [ho] at hin hok
    have HO := Lib.hid ho
    have HIN := Lib.hid hin
    have HOK := Lib.hid hok
    clear ho hin hok
    obtain ⟨A0, c0, B0, d0, T0, e0, S0⟩ := S
    obtain ⟨k0, k1, k2, k3, k4, k5⟩ := cells6 S0.row
    go_upto_if 36 with fail
    clear k0 k1 k2 k3 k4 k5
    go_cut [7] from 10 (fun s7 wx => IEx w wx w.heap.size N Kx Ky #[.string ⟨rw_.toArray⟩, .bool ro, .bool ra, .bool rb, .bool rn, .bool rt] ⟨(k : Int), v1, 0, 0, 0, [], [], [], 0⟩ ⟨rl1, rok1⟩)
    case first =>
      clear HIN HOK
      rcases ro with _ | _
      · have h1 := HO.out
        simp [Mc.optOp] at h1
        obtain ⟨h1, h2, h3⟩ := h1
        subst h1 h2 h3
        clear HO
        have S0 := Lib.hid S0
        go_wp2_with fail
        go_meet
        exact S0.out.ex
      · have h1 := HO.out
        simp only [Mc.optOp, if_true, Mc.nxt, Mc.numO, Prod.mk.injEq, Mc.Rs.mk.injEq] at h1
        obtain ⟨h1, h2, h3⟩ := h1
        clear HO
        have HNx := Lib.hid (word_any N N rl0 rok0 _ S0.rd)
        obtain ⟨hd1, hhd⟩ : ∃ x, rl0.headD [] = x := ⟨_, rfl⟩
        rw [hhd] at HNx h1
        have HFi := Lib.hid (fun W (G : Glob W) => ofind_any hd1 W G)
        rw [found_eq hd1] at HFi
        obtain ⟨⟨fo, fb⟩, hfo⟩ : ∃ x, Mc.opFind hd1 = x := ⟨_, rfl⟩
        rw [hfo] at HFi h1
        dsimp only at HFi h1
        subst h1 h2 h3
        clear hhd hfo
        go_upto_region 16 with (first
          | (go_at_call 92; refine HNx.out.mono ?_; rintro e W2 ⟨rfl, r6, g6⟩; have S2 := S0.step (r' := ⟨_, _⟩) r6 g6; clear S0)
          | (go_at_call 93; refine (HFi.out _ (HG.out.g.below S2.bel)).mono ?_; rintro e W3 ⟨rfl, hb⟩; have S3 := S2.below hb; clear S2 hb; have q1 := (S3.cells 1 (by omega)).1; obtain ⟨q0, q2⟩ := (S3.cells 1 (by omega)).2; have q3 := S3.ltx))
        all_goals go_meet
        all_goals exact (S3.setOp fo).ex
    case rest =>
    clear S0 HO
    have hin := HIN.out
    have hok := HOK.out
    clear HIN HOK
    have S := hcut
    clear hcut
    obtain ⟨⟨v2, ⟨rl2, rok2⟩⟩, ho⟩ : ∃ x, Mc.optNum ra ⟨rl1, rok1⟩ = x := ⟨_, rfl⟩
    rw [ho] at hin hok
    have HO := Lib.hid ho
    have HIN := Lib.hid hin
    have HOK := Lib.hid hok
    clear ho hin hok
    obtain ⟨A0, c0, B0, d0, T0, e0, S0⟩ := S
    obtain ⟨k0, k1, k2, k3, k4, k5⟩ := cells6 S0.row
    go_upto_if 45 with fail
    clear k0 k1 k2 k3 k4 k5
    go_cut [7] from 10 (fun s7 wx => IEx w wx w.heap.size N Kx Ky #[.string ⟨rw_.toArray⟩, .bool ro, .bool ra, .bool rb, .bool rn, .bool rt] ⟨(k : Int), v1, v2, 0, 0, [], [], [], 0⟩ ⟨rl2, rok2⟩)
    case first =>
      clear HIN HOK
      rcases ra with _ | _
      · have h1 := HO.out
        simp [Mc.optNum] at h1
        obtain ⟨h1, h2, h3⟩ := h1
        subst h1 h2 h3
        clear HO
        have S0 := Lib.hid S0
        go_wp2_with fail
        go_meet
        exact S0.out.ex
      · have h1 := HO.out
        simp only [Mc.optNum, if_true, Mc.nxt, Mc.numO, Prod.mk.injEq, Mc.Rs.mk.injEq] at h1
        obtain ⟨h1, h2, h3⟩ := h1
        clear HO
        have HNum := Lib.hid (number_any N N rl1 rok1 _ S0.rd)
        obtain ⟨⟨fo, fb⟩, hfo⟩ : ∃ x, Mc.natP (rl1.headD []) = x := ⟨_, rfl⟩
        rw [hfo] at HNum h1 h3
        dsimp only at HNum h1 h3
        subst h1 h2 h3
        clear hfo
        go_wp2_with (go_at_call 94; refine HNum.out.mono ?_; rintro e W2 ⟨rfl, r6, g6⟩; have S2 := S0.step (r' := ⟨_, _⟩) r6 g6; clear S0; have q1 := (S2.cells 2 (by omega)).1; obtain ⟨q0, q2⟩ := (S2.cells 2 (by omega)).2; have q3 := S2.ltx)
        all_goals go_meet
        all_goals exact (S2.setA _).ex
    case rest =>
    clear S0 HO
    have hin := HIN.out
    have hok := HOK.out
    clear HIN HOK
    have S := hcut
    clear hcut
    obtain ⟨⟨v3, ⟨rl3, rok3⟩⟩, ho⟩ : ∃ x, Mc.optNum rb ⟨rl2, rok2⟩ = x := ⟨_, rfl⟩
    rw [ho] at hin hok
    have HO := Lib.hid ho
    have HIN := Lib.hid hin
    have HOK := Lib.hid hok
    clear ho hin hok
    obtain ⟨A0, c0, B0, d0, T0, e0, S0⟩ := S
    obtain ⟨k0, k1, k2, k3, k4, k5⟩ := cells6 S0.row
    go_upto_if 50 with fail
    clear k0 k1 k2 k3 k4 k5
    go_cut [7] from 10 (fun s7 wx => IEx w wx w.heap.size N Kx Ky #[.string ⟨rw_.toArray⟩, .bool ro, .bool ra, .bool rb, .bool rn, .bool rt] ⟨(k : Int), v1, v2, v3, 0, [], [], [], 0⟩ ⟨rl3, rok3⟩)
    case first =>
      clear HIN HOK
      rcases rb with _ | _
      · have h1 := HO.out
        simp [Mc.optNum] at h1
        obtain ⟨h1, h2, h3⟩ := h1
        subst h1 h2 h3
        clear HO
        have S0 := Lib.hid S0
        go_wp2_with fail
        go_meet
        exact S0.out.ex
      · have h1 := HO.out
        simp only [Mc.optNum, if_true, Mc.nxt, Mc.numO, Prod.mk.injEq, Mc.Rs.mk.injEq] at h1
        obtain ⟨h1, h2, h3⟩ := h1
        clear HO
        have HNum := Lib.hid (number_any N N rl2 rok2 _ S0.rd)
        obtain ⟨⟨fo, fb⟩, hfo⟩ : ∃ x, Mc.natP (rl2.headD []) = x := ⟨_, rfl⟩
        rw [hfo] at HNum h1 h3
        dsimp only at HNum h1 h3
        subst h1 h2 h3
        clear hfo
        go_wp2_with (go_at_call 94; refine HNum.out.mono ?_; rintro e W2 ⟨rfl, r6, g6⟩; have S2 := S0.step (r' := ⟨_, _⟩) r6 g6; clear S0; have q1 := (S2.cells 3 (by omega)).1; obtain ⟨q0, q2⟩ := (S2.cells 3 (by omega)).2; have q3 := S2.ltx)
        all_goals go_meet
        all_goals exact (S2.setB _).ex
    case rest =>
    clear S0 HO
    have hin := HIN.out
    have hok := HOK.out
    clear HIN HOK
    have S := hcut
    clear hcut
    obtain ⟨⟨v4, ⟨rl4, rok4⟩⟩, ho⟩ : ∃ x, Mc.optN rn ⟨rl3, rok3⟩ = x := ⟨_, rfl⟩
    rw [ho] at hin hok
    have HO := Lib.hid ho
    have HIN := Lib.hid hin
    have HOK := Lib.hid hok
    clear ho hin hok
    obtain ⟨A0, c0, B0, d0, T0, e0, S0⟩ := S
    obtain ⟨k0, k1, k2, k3, k4, k5⟩ := cells6 S0.row
    go_upto_if 55 with fail
    clear k0 k1 k2 k3 k4 k5
    go_cut [7] from 10 (fun s7 wx => IEx w wx w.heap.size N Kx Ky #[.string ⟨rw_.toArray⟩, .bool ro, .bool ra, .bool rb, .bool rn, .bool rt] ⟨(k : Int), v1, v2, v3, v4, [], [], [], 0⟩ ⟨rl4, rok4⟩)
    case first =>
      clear HIN HOK
      rcases rn with _ | _
      · have h1 := HO.out
        simp [Mc.optN] at h1
        obtain ⟨h1, h2, h3⟩ := h1
        subst h1 h2 h3
        clear HO
        have S0 := Lib.hid S0
        go_wp2_with fail
        go_meet
        exact S0.out.ex
      · have h1 := HO.out
        simp only [Mc.optN, if_true, Mc.nxt, Mc.numO, Prod.mk.injEq, Mc.Rs.mk.injEq] at h1
        obtain ⟨h1, h2, h3⟩ := h1
        clear HO
        have HNx := Lib.hid (word_any N N rl3 rok3 _ S0.rd)
        obtain ⟨hd1, hhd⟩ : ∃ x, rl3.headD [] = x := ⟨_, rfl⟩
        have hdl : hd1.length ≤ 1000000 := by
          rcases rl3 with _ | ⟨u, tl2⟩
          · rw [← hhd]; simp
          · rw [← hhd]; exact S0.rd.wd.2 u (by simp)
        rw [hhd] at HNx h1
        have HP := Lib.hid (fun W (G : Glob W) => parseUint_any hd1 hdl W G)
        obtain ⟨⟨fo, fb⟩, hfo⟩ : ∃ x, puint hd1 = x := ⟨_, rfl⟩
        rw [hfo] at HP h1
        dsimp only at HP h1
        subst h1 h2 h3
        clear hhd hfo hdl
        go_wp2_with (first
          | (go_at_call 92; refine HNx.out.mono ?_; rintro e W2 ⟨rfl, r6, g6⟩; have S2 := S0.step (r' := ⟨_, _⟩) r6 g6; clear S0)
          | (go_at_call 95; refine (HP.out _ (HG.out.g.below S2.bel)).mono ?_; rintro e W3 ⟨⟨ev, rfl, hev⟩, hb⟩; have S3 := S2.below hb; clear S2 hb; have q1 := (S3.cells 4 (by omega)).1; obtain ⟨q0, q2⟩ := (S3.cells 4 (by omega)).2; have q3 := S3.ltx))
        all_goals go_meet
        all_goals exact (S3.setN fo).ex
    case rest =>
    clear S0 HO
    have hin := HIN.out
    have hok := HOK.out
    clear HIN HOK
    have S := hcut
    clear hcut
    obtain ⟨⟨v5, ⟨rl5, rok5⟩⟩, ho⟩ : ∃ x, Mc.optNum rt ⟨rl4, rok4⟩ = x := ⟨_, rfl⟩
    rw [ho] at hin hok
    have HO := Lib.hid ho
    have HIN := Lib.hid hin
    have HOK := Lib.hid hok
    clear ho hin hok
    obtain ⟨A0, c0, B0, d0, T0, e0, S0⟩ := S
    obtain ⟨k0, k1, k2, k3, k4, k5⟩ := cells6 S0.row
    go_upto_if 64 with fail
    clear k0 k1 k2 k3 k4 k5
    go_cut [7] from 10 (fun s7 wx => IEx w wx w.heap.size N Kx Ky #[.string ⟨rw_.toArray⟩, .bool ro, .bool ra, .bool rb, .bool rn, .bool rt] ⟨(k : Int), v1, v2, v3, v4, [], [], [], v5⟩ ⟨rl5, rok5⟩)
    case first =>
      clear HIN HOK
      rcases rt with _ | _
      · have h1 := HO.out
        simp [Mc.optNum] at h1
        obtain ⟨h1, h2, h3⟩ := h1
        subst h1 h2 h3
        clear HO
        have S0 := Lib.hid S0
        go_wp2_with fail
        go_meet
        exact S0.out.ex
      · have h1 := HO.out
        simp only [Mc.optNum, if_true, Mc.nxt, Mc.numO, Prod.mk.injEq, Mc.Rs.mk.injEq] at h1
        obtain ⟨h1, h2, h3⟩ := h1
        clear HO
        have HNum := Lib.hid (number_any N N rl4 rok4 _ S0.rd)
        obtain ⟨⟨fo, fb⟩, hfo⟩ : ∃ x, Mc.natP (rl4.headD []) = x := ⟨_, rfl⟩
        rw [hfo] at HNum h1 h3
        dsimp only at HNum h1 h3
        subst h1 h2 h3
        clear hfo
        go_wp2_with (go_at_call 94; refine HNum.out.mono ?_; rintro e W2 ⟨rfl, r6, g6⟩; have S2 := S0.step (r' := ⟨_, _⟩) r6 g6; clear S0; have q1 := (S2.cells 8 (by omega)).1; obtain ⟨q0, q2⟩ := (S2.cells 8 (by omega)).2; have q3 := S2.ltx)
        all_goals go_meet
        all_goals exact (S2.setTrap _).ex
    case rest =>
    clear S0 HO
    have hin := HIN.out
    have hok := HOK.out
    clear HIN HOK
    have S := hcut
    clear hcut
    obtain ⟨⟨v6, ⟨rl6, rok6⟩⟩, ho⟩ : ∃ x, Mc.spotsGo rl5 rok5 = x := ⟨_, rfl⟩
    rw [ho] at hin hok
    obtain ⟨A0, c0, B0, d0, T0, e0, S0⟩ := S
    have HSp := Lib.hid (spots_any N N rl5 rok5 _ S0.rd)
    rw [ho] at HSp
    dsimp only at HSp hin hok
    clear ho
    have hly := S0.lty
    have HIN := Lib.hid hin
    have HOK := Lib.hid hok
    clear hin hok
    go_upto_region 25 with (go_at_call 96; refine HSp.out.mono ?_; rintro e W2 ⟨A6, c6, rfl, own6, r6, g6⟩; have S2 := S0.step (r' := ⟨_, _⟩) r6 g6; clear S0; have q1 := (S2.cells 5 (by omega)).1; obtain ⟨q0, q2⟩ := (S2.cells 5 (by omega)).2; have q3 := S2.ltx; have rw2 := RowP.own own6 hly)
    refine at_code (F := fun W' => IEx w W' w.heap.size N Kx Ky #[.string ⟨rw_.toArray⟩, .bool ro, .bool ra, .bool rb, .bool rn, .bool rt] ⟨(k : Int), v1, v2, v3, v4, v6, [], [], v5⟩ ⟨rl6, rok6⟩) (S2.setD rw2 (own_room own6)).ex ?_
    clear S2 rw2 own6 g6 r6 HSp q0 q1 q2 q3 hly
    have hin := HIN.out
    have hok := HOK.out
    clear HIN HOK
    intro W S
    obtain ⟨⟨v7, ⟨rl7, rok7⟩⟩, ho⟩ : ∃ x, Mc.srcO ⟨rl6, rok6⟩ = x := ⟨_, rfl⟩
    rw [ho] at hin hok
    have HO := Lib.hid ho
    have HIN := Lib.hid hin
    have HOK := Lib.hid hok
    clear ho hin hok
    obtain ⟨A0, c0, B0, d0, T0, e0, S0⟩ := S
    obtain ⟨a1, n1, q0, q1, hn1, hfirst⟩ := S0.rdc
    have hltN := S0.rd.lt
    dsimp only at q0 q1 hn1 hfirst
    go_cut [85] from 10 (fun sx wx => sx = .bool (Mc.hdB [61] rl6) ∧ wx = W)
    case first =>
      rcases rl6 with _ | ⟨u, rl6⟩
      · have S0 := Lib.hid S0
        go_wp2_with fail
        go_meet
        exact ⟨rfl, rfl⟩
      · obtain ⟨g, o, rfl, f0⟩ := hfirst u rl6 rfl
        clear hfirst HIN HOK HO
        simp only [List.length_cons] at q0 hn1
        have x0 : (0 : Int) < (rl6.length : Int) + 1 := by omega
        have S0 := Lib.hid S0
        by_cases hu : u = [61]
        · subst hu
          go_wp2_with fail
          go_meet
          exact ⟨by simp [Mc.hdB], rfl⟩
        · have hbe := beq_no hu
          have hq2 : (u == [61]) = false := by simpa using hu
          go_wp2_with fail
          go_meet
          exact ⟨by simp [Mc.hdB, hu], rfl⟩
    case rest =>
    obtain ⟨rfl, rfl⟩ := hcut
    clear q0 q1 hn1 hfirst
    go_upto_if 85 with fail
    go_cut [7] from 10 (fun s7 wx => IEx w wx w.heap.size N Kx Ky #[.string ⟨rw_.toArray⟩, .bool ro, .bool ra, .bool rb, .bool rn, .bool rt] ⟨(k : Int), v1, v2, v3, v4, v6, v7, [], v5⟩ ⟨rl7, rok7⟩)
    case first =>
      clear HIN HOK
      have HO1 := HO.out
      clear HO
      rcases hh : Mc.hdB [61] rl6 with _ | _
      · rw [Mc.srcO, if_neg (Mc.hdB_no hh)] at HO1
        simp only [Prod.mk.injEq, Mc.Rs.mk.injEq] at HO1
        obtain ⟨h1, h2, h3⟩ := HO1
        subst h1 h2 h3
        have S0 := Lib.hid S0
        go_wp2_with fail
        go_meet
        exact S0.out.ex
      · obtain ⟨rl6, rfl⟩ := Mc.hdB_true hh
        clear hh
        simp only [Mc.srcO, List.head?_cons, if_true, List.tail_cons] at HO1
        have HWd := Lib.hid (word_any N N ([61] :: rl6) rok6 _ S0.rd)
        simp only [List.headD_cons, List.tail_cons, List.isEmpty_cons, Bool.not_false, Bool.and_true] at HWd
        have HSp := Lib.hid (fun W' (h : RAt W' N N rl6 rok6) => spots_any N N rl6 rok6 W' h)
        rw [HO1] at HSp
        dsimp only at HSp
        clear HO1
        go_wp2_with (first
          | (go_at_call 92; refine HWd.out.mono ?_; rintro e W2 ⟨rfl, r6, g6⟩; have S2 := S0.step (r' := ⟨_, _⟩) r6 g6; clear S0 r6 g6; have hly := S2.lty)
          | (go_at_call 96; refine (HSp.out _ S2.rd).mono ?_; rintro e W3 ⟨A7, c7, rfl, own7, r7, g7⟩; have S3 := S2.step (r' := ⟨_, _⟩) r7 g7; clear S2; have q1' := (S3.cells 6 (by omega)).1; obtain ⟨q0', q2'⟩ := (S3.cells 6 (by omega)).2; have q3' := S3.ltx; have rw3 := RowP.own own7 hly))
        all_goals go_meet
        all_goals exact (S3.setS rw3).ex
    case rest =>
    clear S0 HO
    have hin := HIN.out
    have hok := HOK.out
    clear HIN HOK
    have S := hcut
    clear hcut
    obtain ⟨⟨v8, ⟨rl8, rok8⟩⟩, ho⟩ : ∃ x, Mc.toO ⟨rl7, rok7⟩ = x := ⟨_, rfl⟩
    rw [ho] at hin hok
    have HO := Lib.hid ho
    have HIN := Lib.hid hin
    have HOK := Lib.hid hok
    clear ho hin hok
    obtain ⟨A0, c0, B0, d0, T0, e0, S0⟩ := S
    go_upto_region 28 with fail
    obtain ⟨a1, n1, q0, q1, hn1, hfirst⟩ := S0.rdc
    have hltN := S0.rd.lt
    dsimp only at q0 q1 hn1 hfirst
    go_cut [105] from 10 (fun sx wx => sx = .bool (Mc.hdB [58] rl7) ∧ wx = wc)
    case first =>
      rcases rl7 with _ | ⟨u, rl7⟩
      · have S0 := Lib.hid S0
        go_wp2_with fail
        go_meet
        exact ⟨rfl, rfl⟩
      · obtain ⟨g, o, rfl, f0⟩ := hfirst u rl7 rfl
        clear hfirst HIN HOK HO
        simp only [List.length_cons] at q0 hn1
        have x0 : (0 : Int) < (rl7.length : Int) + 1 := by omega
        have S0 := Lib.hid S0
        by_cases hu : u = [58]
        · subst hu
          go_wp2_with fail
          go_meet
          exact ⟨by simp [Mc.hdB], rfl⟩
        · have hbe := beq_no hu
          have hq2 : (u == [58]) = false := by simpa using hu
          go_wp2_with fail
          go_meet
          exact ⟨by simp [Mc.hdB, hu], rfl⟩
    case rest =>
    obtain ⟨rfl, rfl⟩ := hcut
    clear q0 q1 hn1 hfirst
    go_upto_if 105 with fail
    go_cut [7] from 10 (fun s7 wx => IEx w wx w.heap.size N Kx Ky #[.string ⟨rw_.toArray⟩, .bool ro, .bool ra, .bool rb, .bool rn, .bool rt] ⟨(k : Int), v1, v2, v3, v4, v6, v7, v8, v5⟩ ⟨rl8, rok8⟩)
    case first =>
      clear HIN HOK
      have HO1 := HO.out
      clear HO
      rcases hh : Mc.hdB [58] rl7 with _ | _
      · rw [Mc.toO, if_neg (Mc.hdB_no hh)] at HO1
        simp only [Prod.mk.injEq, Mc.Rs.mk.injEq] at HO1
        obtain ⟨h1, h2, h3⟩ := HO1
        subst h1 h2 h3
        have S0 := Lib.hid S0
        go_wp2_with fail
        go_meet
        exact S0.out.ex
      · obtain ⟨rl7, rfl⟩ := Mc.hdB_true hh
        clear hh
        simp only [Mc.toO, List.head?_cons, if_true, List.tail_cons, Prod.mk.injEq, Mc.Rs.mk.injEq] at HO1
        obtain ⟨h1, h2, h3⟩ := HO1
        subst h2
        have HWd := Lib.hid (word_any N N ([58] :: rl7) rok7 _ S0.rd)
        simp only [List.headD_cons, List.tail_cons, List.isEmpty_cons, Bool.not_false, Bool.and_true] at HWd
        have hl7 := S0.rd.wd.1
        simp only [List.length_cons] at hl7
        go_wp2_with (go_at_call 92; refine HWd.out.mono ?_; rintro e W2 ⟨rfl, r6, g6⟩; have S2 := S0.step (r' := ⟨_, _⟩) r6 g6; clear S0 r6 g6)
        clear HWd
        obtain ⟨Z, hZ⟩ : ∃ Z, Mc.numsGo rl7 rok7 = Z := ⟨_, rfl⟩
        rw [hZ] at h1 h3
        have HZ := Lib.hid hZ
        clear hZ
        go_loopw [113] (fun s7 wr => ∃ (zs : List Int) (rl : List Mc.W) (rok : Bool), Hid (IEx w wr w.heap.size N Kx Ky #[.string ⟨rw_.toArray⟩, .bool ro, .bool ra, .bool rb, .bool rn, .bool rt] ⟨(k : Int), v1, v2, v3, v4, v6, v7, zs, v5⟩ ⟨rl, rok⟩) ∧ zs.length + rl.length ≤ 1000000 ∧ Hid (Z = (zs ++ (Mc.numsGo rl rok).1, (Mc.numsGo rl rok).2))) (fun s7 wr => lenOf ((wr.cell? ⟨N, 0, none⟩).getD undef))
        case atStart => exact ⟨[], rl7, rok7, Lib.hid S2.ex, by simp; omega, Lib.hid (by rw [HZ.out]; rfl)⟩
        case round =>
          clear S2 HZ
          obtain ⟨zs, rl, rok, HS, hzl, HZ⟩ := hrel
          obtain ⟨A3, c3, B3, d3, T3, e3, S3⟩ := HS.out
          obtain ⟨a3, n3, q0, q1, hn3, -⟩ := S3.rdc
          have hltN3 := S3.rd.lt
          dsimp only at q0 q1 hn3
          have HCM : Hid (lenOf ((wr.cell? ⟨N, 0, none⟩).getD undef) = rl.length) := Lib.hid (by rw [q0]; rfl)
          rcases rl with _ | ⟨u, rl⟩
          · have S3 := Lib.hid S3
            go_wp2_with fail
            go_meet
            have hz := HZ.out
            simp only [Mc.numsGo, List.append_nil] at hz
            rw [hz] at h1 h3
            subst h1 h3
            exact S3.out.ex
          · simp only [List.length_cons] at q0 hn3 hzl
            have x0 : (0 : Int) < (rl.length : Int) + 1 := by omega
            have hZ := HZ.out
            unfold Mc.numsGo at hZ
            have HNum := Lib.hid (fun W' (h : RAt W' N N (u :: rl) rok) => number_any N N (u :: rl) rok W' h)
            simp only [List.headD_cons, List.tail_cons, List.isEmpty_cons, Bool.not_false, Bool.and_true] at HNum
            obtain ⟨⟨q, qb⟩, hq⟩ : ∃ x, Mc.natP u = x := ⟨_, rfl⟩
            rw [hq] at HNum hZ
            dsimp only at HNum hZ
            have HZ2 := Lib.hid hZ
            clear hq hZ HZ h1 h3 HS
            have S3H := Lib.hid S3
            go_upto_region 31 with fail
            clear q0 q1 hn3 x0
            have SD := S3H.out.below (below_drewN wr 1)
            have SD : ISt w (World.drew wr) w.heap.size N Kx Ky #[.string ⟨rw_.toArray⟩, .bool ro, .bool ra, .bool rb, .bool rn, .bool rt] ⟨(k : Int), v1, v2, v3, v4, v6, v7, zs, v5⟩ ⟨u :: rl, rok⟩ A3 c3 B3 d3 T3 e3 := SD
            have c7 : (World.drew wr).cell? ⟨Kx, 7, none⟩ = some (.slice T3 zs.length e3) := SD.cur.cells 7
            have c7w : wr.cell? ⟨Kx, 7, none⟩ = some (.slice T3 zs.length e3) := c7
            have HNs2 := Lib.hid (HNum.out _ SD.rd)
            obtain ⟨i0, hi0, hz0, hz1, hz2⟩ := info_parts info_int
            clear HNum S3 S3H
            refine wp_region_held_drew (S := (fun _ => True)) (by kernel_rfl) ?_ (fun hHeld0 => ?_)
            · first | assumption | go_keep
            refine tj (i := 0) rfl ?_; (try simp only [zS, zN, zT, zC, zZ])
            refine tj (i := 2) rfl ?_; (try simp only [zS, zN, zT, zC, zZ])
            refine wpAnyH_ready (rs := [1, 3]) (by kernel_rfl) (by simp) ?_
            refine (AllReadyH.cons rfl (fun K hK => ?_) (AllReadyH.cons rfl (fun K hK => ?_) AllReadyH.nil))
            · skip
              go_simp
              skip
              (try dsimp only)
              refine hK.out _ _ ?_ (fun hHeld1 => ?_)
              · first | trivial | ((try dsimp only); first | assumption | trivial | go_keep)
              clear hK K hHeld0
              (try simp only [zS, zN, zT, zC, zZ])
              refine wpAnyH_ready (rs := [3]) (by kernel_rfl) (by simp) ?_
              refine (AllReadyH.cons rfl (fun K hK => ?_) AllReadyH.nil)
              go_simp
              (refine HNs2.out.mono ?_; rintro e w3 ⟨rfl, r3, g3⟩; have S4 := SD.step (r' := ⟨_, _⟩) r3 g3; have c7' : w3.cell? ⟨Kx, 7, none⟩ = some (.slice T3 zs.length e3) := S4.cur.cells 7; clear r3 g3)
              (try dsimp only)
              refine hK.out _ _ ?_ (fun hHeld2 => ?_)
              · first | trivial | ((try dsimp only); first | assumption | trivial | go_keep)
              clear hK K hHeld1
              (try simp only [zS, zN, zT, zC, zZ])
              refine wpAnyH_ready (rs := [4]) (by kernel_rfl) (by simp) ?_
              refine (AllReadyH.cons rfl (fun K hK => ?_) AllReadyH.nil)
              go_simp
              (have S5 := S4.below ((Below.refl _ _).alloc (Nat.le_refl _) (.cells #[.int .i64 q] 3)); have c7'' : (w3.alloc (.cells #[.int .i64 q] 3)).cell? ⟨Kx, 7, none⟩ = some (.slice T3 zs.length e3) := S5.cur.cells 7)
              (try dsimp only)
              refine hK.out _ _ ?_ (fun hHeld3 => ?_)
              · first | trivial | ((try dsimp only); first | assumption | trivial | go_keep)
              clear hK K hHeld2
              (try simp only [zS, zN, zT, zC, zZ])
              refine wpAnyH_ready (rs := [5]) (by kernel_rfl) (by simp) ?_
              refine (AllReadyH.cons rfl (fun K hK => ?_) AllReadyH.nil)
              (refine step_app Tryz.underlying58 hi0 hz0 hz1 hz2 rfl (by omega) encZ_len encZ_one _ rfl (.tmp 115) (.tmp 118) rfl (Ky + 1) (.slice T3 zs.length e3) zs.length zs (by rfl) S5.own [q] 1 1 _ rfl (by rfl) (one_int w3 q) (by omega) (by omega) (by have := S5.lty; omega) ?_; intro A' c' w5 own5 hg5; have V5 := var_grown S5.cur S5.own (by decide) hg5; have S6 := S5.app (z := q) own5 hg5; have e7 : w5.cell? ⟨Kx, 7, none⟩ = some (.slice T3 zs.length e3) := V5.cells 7; have z7 := V5.froz 7; have l7 := V5.lt)
              (try dsimp only)
              refine hK.out _ _ ?_ (fun hHeld4 => ?_)
              · first | trivial | ((try dsimp only); first | assumption | trivial | go_keep)
              clear hK K hHeld3
              (try simp only [zS, zN, zT, zC, zZ])
              refine tj (i := 6) rfl ?_; (try simp only [zS, zN, zT, zC, zZ])
              refine wpAnyH_ready (rs := [7]) (by kernel_rfl) (by simp) ?_
              refine (AllReadyH.cons rfl (fun K hK => ?_) AllReadyH.nil)
              go_simp
              skip
              (try dsimp only)
              refine hK.out _ _ ?_ (fun hHeld5 => ?_)
              · first | trivial | ((try dsimp only); first | assumption | trivial | go_keep)
              clear hK K hHeld4
              (try simp only [zS, zN, zT, zC, zZ])
              refine wpAnyH_done (by kernel_rfl) ?_ _
              (try dsimp only)
              repeat (first | go_values | go_skip | go_guarded | go_step | go_upon)
              go_roundw
              case rel => exact ⟨zs ++ [q], rl, rok && qb, Lib.hid S6.ex, by simp; omega, Lib.hid (by rw [HZ2.out]; simp)⟩
              case measure =>
                obtain ⟨aA, ac, aV, -⟩ := S6.rd.ex
                have am := aV.cells 0
                rw [HCM.out]
                show lenOf (((w5.setCell ⟨Kx, 7, none⟩ _).cell? ⟨N, 0, none⟩).getD undef) < _
                rw [am]
                simp [lenOf]
            · skip
              go_simp
              (refine HNs2.out.mono ?_; rintro e w3 ⟨rfl, r3, g3⟩; have S4 := SD.step (r' := ⟨_, _⟩) r3 g3; have c7' : w3.cell? ⟨Kx, 7, none⟩ = some (.slice T3 zs.length e3) := S4.cur.cells 7; clear r3 g3)
              (try dsimp only)
              refine hK.out _ _ ?_ (fun hHeld1 => ?_)
              · first | trivial | ((try dsimp only); first | assumption | trivial | go_keep)
              clear hK K hHeld0
              (try simp only [zS, zN, zT, zC, zZ])
              refine wpAnyH_ready (rs := [1, 4]) (by kernel_rfl) (by simp) ?_
              refine (AllReadyH.cons rfl (fun K hK => ?_) (AllReadyH.cons rfl (fun K hK => ?_) AllReadyH.nil))
              · skip
                go_simp
                skip
                (try dsimp only)
                refine hK.out _ _ ?_ (fun hHeld2 => ?_)
                · first | trivial | ((try dsimp only); first | assumption | trivial | go_keep)
                clear hK K hHeld1
                (try simp only [zS, zN, zT, zC, zZ])
                refine wpAnyH_ready (rs := [4]) (by kernel_rfl) (by simp) ?_
                refine (AllReadyH.cons rfl (fun K hK => ?_) AllReadyH.nil)
                go_simp
                (have S5 := S4.below ((Below.refl _ _).alloc (Nat.le_refl _) (.cells #[.int .i64 q] 3)); have c7'' : (w3.alloc (.cells #[.int .i64 q] 3)).cell? ⟨Kx, 7, none⟩ = some (.slice T3 zs.length e3) := S5.cur.cells 7)
                (try dsimp only)
                refine hK.out _ _ ?_ (fun hHeld3 => ?_)
                · first | trivial | ((try dsimp only); first | assumption | trivial | go_keep)
                clear hK K hHeld2
                (try simp only [zS, zN, zT, zC, zZ])
                refine wpAnyH_ready (rs := [5]) (by kernel_rfl) (by simp) ?_
                refine (AllReadyH.cons rfl (fun K hK => ?_) AllReadyH.nil)
                (refine step_app Tryz.underlying58 hi0 hz0 hz1 hz2 rfl (by omega) encZ_len encZ_one _ rfl (.tmp 115) (.tmp 118) rfl (Ky + 1) (.slice T3 zs.length e3) zs.length zs (by rfl) S5.own [q] 1 1 _ rfl (by rfl) (one_int w3 q) (by omega) (by omega) (by have := S5.lty; omega) ?_; intro A' c' w5 own5 hg5; have V5 := var_grown S5.cur S5.own (by decide) hg5; have S6 := S5.app (z := q) own5 hg5; have e7 : w5.cell? ⟨Kx, 7, none⟩ = some (.slice T3 zs.length e3) := V5.cells 7; have z7 := V5.froz 7; have l7 := V5.lt)
                (try dsimp only)
                refine hK.out _ _ ?_ (fun hHeld4 => ?_)
                · first | trivial | ((try dsimp only); first | assumption | trivial | go_keep)
                clear hK K hHeld3
                (try simp only [zS, zN, zT, zC, zZ])
                refine tj (i := 6) rfl ?_; (try simp only [zS, zN, zT, zC, zZ])
                refine wpAnyH_ready (rs := [7]) (by kernel_rfl) (by simp) ?_
                refine (AllReadyH.cons rfl (fun K hK => ?_) AllReadyH.nil)
                go_simp
                skip
                (try dsimp only)
                refine hK.out _ _ ?_ (fun hHeld5 => ?_)
                · first | trivial | ((try dsimp only); first | assumption | trivial | go_keep)
                clear hK K hHeld4
                (try simp only [zS, zN, zT, zC, zZ])
                refine wpAnyH_done (by kernel_rfl) ?_ _
                (try dsimp only)
                repeat (first | go_values | go_skip | go_guarded | go_step | go_upon)
                go_roundw
                case rel => exact ⟨zs ++ [q], rl, rok && qb, Lib.hid S6.ex, by simp; omega, Lib.hid (by rw [HZ2.out]; simp)⟩
                case measure =>
                  obtain ⟨aA, ac, aV, -⟩ := S6.rd.ex
                  have am := aV.cells 0
                  rw [HCM.out]
                  show lenOf (((w5.setCell ⟨Kx, 7, none⟩ _).cell? ⟨N, 0, none⟩).getD undef) < _
                  rw [am]
                  simp [lenOf]
              · skip
                go_simp
                (have S5 := S4.below ((Below.refl _ _).alloc (Nat.le_refl _) (.cells #[.int .i64 q] 3)); have c7'' : (w3.alloc (.cells #[.int .i64 q] 3)).cell? ⟨Kx, 7, none⟩ = some (.slice T3 zs.length e3) := S5.cur.cells 7)
                (try dsimp only)
                refine hK.out _ _ ?_ (fun hHeld2 => ?_)
                · first | trivial | ((try dsimp only); first | assumption | trivial | go_keep)
                clear hK K hHeld1
                (try simp only [zS, zN, zT, zC, zZ])
                refine wpAnyH_ready (rs := [1]) (by kernel_rfl) (by simp) ?_
                refine (AllReadyH.cons rfl (fun K hK => ?_) AllReadyH.nil)
                go_simp
                skip
                (try dsimp only)
                refine hK.out _ _ ?_ (fun hHeld3 => ?_)
                · first | trivial | ((try dsimp only); first | assumption | trivial | go_keep)
                clear hK K hHeld2
                (try simp only [zS, zN, zT, zC, zZ])
                refine wpAnyH_ready (rs := [5]) (by kernel_rfl) (by simp) ?_
                refine (AllReadyH.cons rfl (fun K hK => ?_) AllReadyH.nil)
                (refine step_app Tryz.underlying58 hi0 hz0 hz1 hz2 rfl (by omega) encZ_len encZ_one _ rfl (.tmp 115) (.tmp 118) rfl (Ky + 1) (.slice T3 zs.length e3) zs.length zs (by rfl) S5.own [q] 1 1 _ rfl (by rfl) (one_int w3 q) (by omega) (by omega) (by have := S5.lty; omega) ?_; intro A' c' w5 own5 hg5; have V5 := var_grown S5.cur S5.own (by decide) hg5; have S6 := S5.app (z := q) own5 hg5; have e7 : w5.cell? ⟨Kx, 7, none⟩ = some (.slice T3 zs.length e3) := V5.cells 7; have z7 := V5.froz 7; have l7 := V5.lt)
                (try dsimp only)
                refine hK.out _ _ ?_ (fun hHeld4 => ?_)
                · first | trivial | ((try dsimp only); first | assumption | trivial | go_keep)
                clear hK K hHeld3
                (try simp only [zS, zN, zT, zC, zZ])
                refine tj (i := 6) rfl ?_; (try simp only [zS, zN, zT, zC, zZ])
                refine wpAnyH_ready (rs := [7]) (by kernel_rfl) (by simp) ?_
                refine (AllReadyH.cons rfl (fun K hK => ?_) AllReadyH.nil)
                go_simp
                skip
                (try dsimp only)
                refine hK.out _ _ ?_ (fun hHeld5 => ?_)
                · first | trivial | ((try dsimp only); first | assumption | trivial | go_keep)
                clear hK K hHeld4
                (try simp only [zS, zN, zT, zC, zZ])
                refine wpAnyH_done (by kernel_rfl) ?_ _
                (try dsimp only)
                repeat (first | go_values | go_skip | go_guarded | go_step | go_upon)
                go_roundw
                case rel => exact ⟨zs ++ [q], rl, rok && qb, Lib.hid S6.ex, by simp; omega, Lib.hid (by rw [HZ2.out]; simp)⟩
                case measure =>
                  obtain ⟨aA, ac, aV, -⟩ := S6.rd.ex
                  have am := aV.cells 0
                  rw [HCM.out]
                  show lenOf (((w5.setCell ⟨Kx, 7, none⟩ _).cell? ⟨N, 0, none⟩).getD undef) < _
                  rw [am]
                  simp [lenOf]
    case rest =>
    clear S0 HO
    have hin := HIN.out
    have hok := HOK.out
    clear HIN HOK
    have S := hcut
    clear hcut
    go_upto_region 32 with fail
    refine at_code (F := fun W => IEx w W w.heap.size N Kx Ky #[.string ⟨rw_.toArray⟩, .bool ro, .bool ra, .bool rb, .bool rn, .bool rt] (⟨(k : Int), v1, v2, v3, v4, v6, v7, v8, v5⟩ : Mi) ⟨rl8, rok8⟩) S ?_
    clear S
    intro W S
    obtain ⟨A, c, B, d, T, f, S0⟩ := S
    obtain ⟨⟨A1, c1, hvr, -, -⟩, -, -⟩ := id S0.rd
    have hv' : Var W Kx #[.int .i64 (k : Int), .int .i64 v1, .int .i64 v2, .int .i64 v3, .int .u64 (v4 : Int), .slice A v6.length c, .slice B v7.length d, .slice T v8.length f, .int .i64 v5] 61 := S0.cur
    obtain ⟨c0_, c1_, c2_, c3_, c4_, c5_, c6_, c7_, c8_⟩ := cells9 hv'
    obtain ⟨p0, p1⟩ := cells2 hvr
    have VR : Var W w.heap.size #[.int .i64 0, .int .i64 0, .int .i64 0, .int .i64 0, .int .u64 0, .slice none 0 0, .slice none 0 0, .slice none 0 0, .int .i64 0] 61 := S0.res
    dsimp only at hin hok
    have hKx := S0.ltx
    have hKr := hvr.lt
    have hKz := VR.lt
    have l12 := S0.l1
    have l23 := S0.l2
    have SD := S0.below (below_drewN W 1)
    have HIns := Lib.hid (line_any (⟨(k : Int), v1, v2, v3, v4, v6, v7, v8, v5⟩ : Mi) hok (fun g => w.heap.size ≤ g) A c B d T f (World.drew W) (HG.out.below SD.bel) SD.rdi)
    unfold miV at HIns
    dsimp only at HIns
    have SH := Lib.hid S0
    clear hv' hvr S0 SD hok
    dsimp only at p0 p1
    have HR := Lib.hid hin.symm
    clear hin
    rcases rok8 with _ | _
    · skip
      have SS : (fun W' => W'.cell? ⟨Kx, 0, none⟩ = some (.int .i64 (k : Int)) ∧ W'.cell? ⟨Kx, 1, none⟩ = some (.int .i64 v1) ∧ W'.cell? ⟨Kx, 2, none⟩ = some (.int .i64 v2) ∧ W'.cell? ⟨Kx, 3, none⟩ = some (.int .i64 v3) ∧ W'.cell? ⟨Kx, 4, none⟩ = some (.int .u64 (v4 : Int)) ∧ W'.cell? ⟨Kx, 5, none⟩ = some (.slice A v6.length c) ∧ W'.cell? ⟨Kx, 6, none⟩ = some (.slice B v7.length d) ∧ W'.cell? ⟨Kx, 7, none⟩ = some (.slice T v8.length f) ∧ W'.cell? ⟨Kx, 8, none⟩ = some (.int .i64 v5) ∧ W'.cell? ⟨N, 0, none⟩ = some (.slice A1 rl8.length c1) ∧ W'.cell? ⟨N, 1, none⟩ = some (.bool false)) (World.drew W) := ⟨c0_, c1_, c2_, c3_, c4_, c5_, c6_, c7_, c8_, p0, p1⟩
      dsimp only at SS
      have SSc := SS
      obtain ⟨t0, t1, t2, t3, t4, t5, t6, t7, t8, t9, t10⟩ := SSc
      have VD : (World.drew W).heap[w.heap.size]? = some (.cells #[.int .i64 0, .int .i64 0, .int .i64 0, .int .i64 0, .int .u64 0, .slice none 0 0, .slice none 0 0, .slice none 0 0, .int .i64 0] 61 (0, 0)) := VR
      refine wp_region_held_drew (S := (fun W' => W'.cell? ⟨Kx, 0, none⟩ = some (.int .i64 (k : Int)) ∧ W'.cell? ⟨Kx, 1, none⟩ = some (.int .i64 v1) ∧ W'.cell? ⟨Kx, 2, none⟩ = some (.int .i64 v2) ∧ W'.cell? ⟨Kx, 3, none⟩ = some (.int .i64 v3) ∧ W'.cell? ⟨Kx, 4, none⟩ = some (.int .u64 (v4 : Int)) ∧ W'.cell? ⟨Kx, 5, none⟩ = some (.slice A v6.length c) ∧ W'.cell? ⟨Kx, 6, none⟩ = some (.slice B v7.length d) ∧ W'.cell? ⟨Kx, 7, none⟩ = some (.slice T v8.length f) ∧ W'.cell? ⟨Kx, 8, none⟩ = some (.int .i64 v5) ∧ W'.cell? ⟨N, 0, none⟩ = some (.slice A1 rl8.length c1) ∧ W'.cell? ⟨N, 1, none⟩ = some (.bool false))) (by kernel_rfl) ?_ (fun hHeld0 => ?_)
      · first | assumption | go_keep
      refine tj (i := 0) rfl ?_; (try simp only [zS, zN, zT, zC, zZ])
      refine tj (i := 1) rfl ?_; (try simp only [zS, zN, zT, zC, zZ])
      refine tj (i := 2) rfl ?_; (try simp only [zS, zN, zT, zC, zZ])
      refine tj (i := 3) rfl ?_; (try simp only [zS, zN, zT, zC, zZ])
      refine tj (i := 4) rfl ?_; (try simp only [zS, zN, zT, zC, zZ])
      refine tj (i := 5) rfl ?_; (try simp only [zS, zN, zT, zC, zZ])
      refine tjN (i := 6) rfl ?_; (try simp only [zS, zN, zT, zC, zZ])
      refine tjN (i := 7) rfl ?_; (try simp only [zS, zN, zT, zC, zZ])
      refine tjN (i := 8) rfl ?_; (try simp only [zS, zN, zT, zC, zZ])
      refine tjN (i := 9) rfl ?_; (try simp only [zS, zN, zT, zC, zZ])
      refine tjN (i := 10) rfl ?_; (try simp only [zS, zN, zT, zC, zZ])
      refine tjN (i := 11) rfl ?_; (try simp only [zS, zN, zT, zC, zZ])
      refine tj (i := 12) rfl ?_; (try simp only [zS, zN, zT, zC, zZ])
      refine tj (i := 13) rfl ?_; (try simp only [zS, zN, zT, zC, zZ])
      refine tjN (i := 14) rfl ?_; (try simp only [zS, zN, zT, zC, zZ])
      refine tjN (i := 15) rfl ?_; (try simp only [zS, zN, zT, zC, zZ])
      refine tjN (i := 16) rfl ?_; (try simp only [zS, zN, zT, zC, zZ])
      refine tjN (i := 17) rfl ?_; (try simp only [zS, zN, zT, zC, zZ])
      refine tj (i := 18) rfl ?_; (try simp only [zS, zN, zT, zC, zZ])
      refine wpAnyH_ready (rs := [19]) (by kernel_rfl) (by simp) ?_
      refine AllReadyH.cons rfl (fun K hK => ?_) AllReadyH.nil
      (rw [if_pos (by rfl)]; refine wp_store_row 61 (.tmp 2) (.tmp 121) rfl w.heap.size #[.int .i64 (k : Int), .int .i64 v1, .int .i64 v2, .int .i64 v3, .int .u64 (v4 : Int), .slice A v6.length c, .slice B v7.length d, .slice T v8.length f, .int .i64 v5] rfl rfl 61 #[.int .i64 0, .int .i64 0, .int .i64 0, .int .i64 0, .int .u64 0, .slice none 0 0, .slice none 0 0, .slice none 0 0, .int .i64 0] VD info_mi9 rfl (by simp [Value.oneCell']) ?_; have gS := setRow_grown (World.drew W) w.heap.size #[.int .i64 (k : Int), .int .i64 v1, .int .i64 v2, .int .i64 v3, .int .u64 (v4 : Int), .slice A v6.length c, .slice B v7.length d, .slice T v8.length f, .int .i64 v5]; have SS2 : (fun W' => W'.cell? ⟨Kx, 0, none⟩ = some (.int .i64 (k : Int)) ∧ W'.cell? ⟨Kx, 1, none⟩ = some (.int .i64 v1) ∧ W'.cell? ⟨Kx, 2, none⟩ = some (.int .i64 v2) ∧ W'.cell? ⟨Kx, 3, none⟩ = some (.int .i64 v3) ∧ W'.cell? ⟨Kx, 4, none⟩ = some (.int .u64 (v4 : Int)) ∧ W'.cell? ⟨Kx, 5, none⟩ = some (.slice A v6.length c) ∧ W'.cell? ⟨Kx, 6, none⟩ = some (.slice B v7.length d) ∧ W'.cell? ⟨Kx, 7, none⟩ = some (.slice T v8.length f) ∧ W'.cell? ⟨Kx, 8, none⟩ = some (.int .i64 v5) ∧ W'.cell? ⟨N, 0, none⟩ = some (.slice A1 rl8.length c1) ∧ W'.cell? ⟨N, 1, none⟩ = some (.bool false)) ((World.drew W).setRow w.heap.size #[.int .i64 (k : Int), .int .i64 v1, .int .i64 v2, .int .i64 v3, .int .u64 (v4 : Int), .slice A v6.length c, .slice B v7.length d, .slice T v8.length f, .int .i64 v5]) := ⟨gS.cell t0 (by simp; omega), gS.cell t1 (by simp; omega), gS.cell t2 (by simp; omega), gS.cell t3 (by simp; omega), gS.cell t4 (by simp; omega), gS.cell t5 (by simp; omega), gS.cell t6 (by simp; omega), gS.cell t7 (by simp; omega), gS.cell t8 (by simp; omega), gS.cell t9 (by simp; omega), gS.cell t10 (by simp; omega)⟩; dsimp only at SS2)
      (try dsimp only)
      refine hK.out _ _ ?_ (fun hHeld1 => ?_)
      · first | trivial | ((try dsimp only); first | assumption | trivial | go_keep)
      clear hK K hHeld0
      (try simp only [zS, zN, zT, zC, zZ])
      refine tj (i := 20) rfl ?_; (try simp only [zS, zN, zT, zC, zZ])
      refine wpAnyH_done (by kernel_rfl) ?_ _
      (try dsimp only)
      repeat (first | go_values | go_skip | go_guarded | go_step | go_upon)
      have fin := iFin SH.out (below_drewN W 1) #[.int .i64 (k : Int), .int .i64 v1, .int .i64 v2, .int .i64 v3, .int .u64 (v4 : Int), .slice A v6.length c, .slice B v7.length d, .slice T v8.length f, .int .i64 v5]
      refine bodyPost_ret (results_cell_row_tmp rfl _ _ w.heap.size _ #[.int .i64 (k : Int), .int .i64 v1, .int .i64 v2, .int .i64 v3, .int .u64 (v4 : Int), .slice A v6.length c, .slice B v7.length d, .slice T v8.length f, .int .i64 v5] (0, 0) _ rfl (setRow_heap (World.drew W) w.heap.size #[.int .i64 0, .int .i64 0, .int .i64 0, .int .i64 0, .int .u64 0, .slice none 0 0, .slice none 0 0, .slice none 0 0, .int .i64 0] _ _ (0, 0) VR) Tryz.underlying61 rfl (by kernel_rfl)) rfl ?_
      obtain rfl := HR.out
      exact ⟨⟨A, c, B, d, T, f, rfl, fin.2, SH.out.dc⟩, fin.1⟩
    rcases rl8 with _ | ⟨u, rl8⟩
    · by_cases he : Mc.line (⟨(k : Int), v1, v2, v3, v4, v6, v7, v8, v5⟩ : Mi) = s
      · have HR : Hid (R = ((⟨(k : Int), v1, v2, v3, v4, v6, v7, v8, v5⟩ : Mi), true)) := Lib.hid (by rw [HR.out, he]; simp)
        rw [he] at HIns
        clear he
        have SS : (fun W' => W'.cell? ⟨Kx, 0, none⟩ = some (.int .i64 (k : Int)) ∧ W'.cell? ⟨Kx, 1, none⟩ = some (.int .i64 v1) ∧ W'.cell? ⟨Kx, 2, none⟩ = some (.int .i64 v2) ∧ W'.cell? ⟨Kx, 3, none⟩ = some (.int .i64 v3) ∧ W'.cell? ⟨Kx, 4, none⟩ = some (.int .u64 (v4 : Int)) ∧ W'.cell? ⟨Kx, 5, none⟩ = some (.slice A v6.length c) ∧ W'.cell? ⟨Kx, 6, none⟩ = some (.slice B v7.length d) ∧ W'.cell? ⟨Kx, 7, none⟩ = some (.slice T v8.length f) ∧ W'.cell? ⟨Kx, 8, none⟩ = some (.int .i64 v5) ∧ W'.cell? ⟨N, 0, none⟩ = some (.slice A1 0 c1) ∧ W'.cell? ⟨N, 1, none⟩ = some (.bool true)) (World.drew W) := ⟨c0_, c1_, c2_, c3_, c4_, c5_, c6_, c7_, c8_, p0, p1⟩
        dsimp only at SS
        have SSc := SS
        obtain ⟨t0, t1, t2, t3, t4, t5, t6, t7, t8, t9, t10⟩ := SSc
        have VD : (World.drew W).heap[w.heap.size]? = some (.cells #[.int .i64 0, .int .i64 0, .int .i64 0, .int .i64 0, .int .u64 0, .slice none 0 0, .slice none 0 0, .slice none 0 0, .int .i64 0] 61 (0, 0)) := VR
        refine wp_region_held_drew (S := (fun W' => W'.cell? ⟨Kx, 0, none⟩ = some (.int .i64 (k : Int)) ∧ W'.cell? ⟨Kx, 1, none⟩ = some (.int .i64 v1) ∧ W'.cell? ⟨Kx, 2, none⟩ = some (.int .i64 v2) ∧ W'.cell? ⟨Kx, 3, none⟩ = some (.int .i64 v3) ∧ W'.cell? ⟨Kx, 4, none⟩ = some (.int .u64 (v4 : Int)) ∧ W'.cell? ⟨Kx, 5, none⟩ = some (.slice A v6.length c) ∧ W'.cell? ⟨Kx, 6, none⟩ = some (.slice B v7.length d) ∧ W'.cell? ⟨Kx, 7, none⟩ = some (.slice T v8.length f) ∧ W'.cell? ⟨Kx, 8, none⟩ = some (.int .i64 v5) ∧ W'.cell? ⟨N, 0, none⟩ = some (.slice A1 0 c1) ∧ W'.cell? ⟨N, 1, none⟩ = some (.bool true))) (by kernel_rfl) ?_ (fun hHeld0 => ?_)
        · first | assumption | go_keep
        refine tj (i := 0) rfl ?_; (try simp only [zS, zN, zT, zC, zZ])
        refine tj (i := 1) rfl ?_; (try simp only [zS, zN, zT, zC, zZ])
        refine tj (i := 2) rfl ?_; (try simp only [zS, zN, zT, zC, zZ])
        refine tj (i := 3) rfl ?_; (try simp only [zS, zN, zT, zC, zZ])
        refine tj (i := 4) rfl ?_; (try simp only [zS, zN, zT, zC, zZ])
        refine tj (i := 5) rfl ?_; (try simp only [zS, zN, zT, zC, zZ])
        refine tj (i := 6) rfl ?_; (try simp only [zS, zN, zT, zC, zZ])
        refine tj (i := 7) rfl ?_; (try simp only [zS, zN, zT, zC, zZ])
        refine tj (i := 8) rfl ?_; (try simp only [zS, zN, zT, zC, zZ])
        refine tj (i := 9) rfl ?_; (try simp only [zS, zN, zT, zC, zZ])
        refine tj (i := 10) rfl ?_; (try simp only [zS, zN, zT, zC, zZ])
        refine tj (i := 11) rfl ?_; (try simp only [zS, zN, zT, zC, zZ])
        refine tj (i := 12) rfl ?_; (try simp only [zS, zN, zT, zC, zZ])
        refine tj (i := 13) rfl ?_; (try simp only [zS, zN, zT, zC, zZ])
        refine tj (i := 14) rfl ?_; (try simp only [zS, zN, zT, zC, zZ])
        refine tj (i := 16) rfl ?_; (try simp only [zS, zN, zT, zC, zZ])
        refine wpAnyH_ready (rs := [15]) (by kernel_rfl) (by simp) ?_
        refine AllReadyH.cons rfl (fun K hK => ?_) AllReadyH.nil
        go_simp
        (refine HIns.out.mono ?_; rintro e w5 ⟨rfl, hb5⟩; have U5 := Lib.hid ((below_drewN W 1).trans (hb5.mono (Nat.le_refl _))); have V5 := var_keep VR U5.out; have kp := Below.keep U5.out (fun _ => True); have d0 := kp _ _ trivial c0_; have d1 := kp _ _ trivial c1_; have d2 := kp _ _ trivial c2_; have d3 := kp _ _ trivial c3_; have d4 := kp _ _ trivial c4_; have d5 := kp _ _ trivial c5_; have d6 := kp _ _ trivial c6_; have d7 := kp _ _ trivial c7_; have d8 := kp _ _ trivial c8_; have d9 := kp _ _ trivial p0; have d10 := kp _ _ trivial p1; clear kp hb5; have SS5 : (fun W' => W'.cell? ⟨Kx, 0, none⟩ = some (.int .i64 (k : Int)) ∧ W'.cell? ⟨Kx, 1, none⟩ = some (.int .i64 v1) ∧ W'.cell? ⟨Kx, 2, none⟩ = some (.int .i64 v2) ∧ W'.cell? ⟨Kx, 3, none⟩ = some (.int .i64 v3) ∧ W'.cell? ⟨Kx, 4, none⟩ = some (.int .u64 (v4 : Int)) ∧ W'.cell? ⟨Kx, 5, none⟩ = some (.slice A v6.length c) ∧ W'.cell? ⟨Kx, 6, none⟩ = some (.slice B v7.length d) ∧ W'.cell? ⟨Kx, 7, none⟩ = some (.slice T v8.length f) ∧ W'.cell? ⟨Kx, 8, none⟩ = some (.int .i64 v5) ∧ W'.cell? ⟨N, 0, none⟩ = some (.slice A1 0 c1) ∧ W'.cell? ⟨N, 1, none⟩ = some (.bool true)) w5 := ⟨d0, d1, d2, d3, d4, d5, d6, d7, d8, d9, d10⟩; dsimp only at SS5)
        (try dsimp only)
        refine hK.out _ _ ?_ (fun hHeld1 => ?_)
        · first | trivial | ((try dsimp only); first | assumption | trivial | go_keep)
        clear hK K hHeld0
        (try simp only [zS, zN, zT, zC, zZ])
        refine tj (i := 17) rfl ?_; (try simp only [zS, zN, zT, zC, zZ])
        refine tj (i := 18) rfl ?_; (try simp only [zS, zN, zT, zC, zZ])
        refine wpAnyH_ready (rs := [19]) (by kernel_rfl) (by simp) ?_
        refine AllReadyH.cons rfl (fun K hK => ?_) AllReadyH.nil
        (rw [if_pos (by rfl)]; refine wp_store_row 61 (.tmp 2) (.tmp 121) rfl w.heap.size #[.int .i64 (k : Int), .int .i64 v1, .int .i64 v2, .int .i64 v3, .int .u64 (v4 : Int), .slice A v6.length c, .slice B v7.length d, .slice T v8.length f, .int .i64 v5] rfl rfl 61 #[.int .i64 0, .int .i64 0, .int .i64 0, .int .i64 0, .int .u64 0, .slice none 0 0, .slice none 0 0, .slice none 0 0, .int .i64 0] V5 info_mi9 rfl (by simp [Value.oneCell']) ?_; have gS := setRow_grown w5 w.heap.size #[.int .i64 (k : Int), .int .i64 v1, .int .i64 v2, .int .i64 v3, .int .u64 (v4 : Int), .slice A v6.length c, .slice B v7.length d, .slice T v8.length f, .int .i64 v5]; have SS2 : (fun W' => W'.cell? ⟨Kx, 0, none⟩ = some (.int .i64 (k : Int)) ∧ W'.cell? ⟨Kx, 1, none⟩ = some (.int .i64 v1) ∧ W'.cell? ⟨Kx, 2, none⟩ = some (.int .i64 v2) ∧ W'.cell? ⟨Kx, 3, none⟩ = some (.int .i64 v3) ∧ W'.cell? ⟨Kx, 4, none⟩ = some (.int .u64 (v4 : Int)) ∧ W'.cell? ⟨Kx, 5, none⟩ = some (.slice A v6.length c) ∧ W'.cell? ⟨Kx, 6, none⟩ = some (.slice B v7.length d) ∧ W'.cell? ⟨Kx, 7, none⟩ = some (.slice T v8.length f) ∧ W'.cell? ⟨Kx, 8, none⟩ = some (.int .i64 v5) ∧ W'.cell? ⟨N, 0, none⟩ = some (.slice A1 0 c1) ∧ W'.cell? ⟨N, 1, none⟩ = some (.bool true)) (w5.setRow w.heap.size #[.int .i64 (k : Int), .int .i64 v1, .int .i64 v2, .int .i64 v3, .int .u64 (v4 : Int), .slice A v6.length c, .slice B v7.length d, .slice T v8.length f, .int .i64 v5]) := ⟨gS.cell d0 (by simp; omega), gS.cell d1 (by simp; omega), gS.cell d2 (by simp; omega), gS.cell d3 (by simp; omega), gS.cell d4 (by simp; omega), gS.cell d5 (by simp; omega), gS.cell d6 (by simp; omega), gS.cell d7 (by simp; omega), gS.cell d8 (by simp; omega), gS.cell d9 (by simp; omega), gS.cell d10 (by simp; omega)⟩; dsimp only at SS2)
        (try dsimp only)
        refine hK.out _ _ ?_ (fun hHeld2 => ?_)
        · first | trivial | ((try dsimp only); first | assumption | trivial | go_keep)
        clear hK K hHeld1
        (try simp only [zS, zN, zT, zC, zZ])
        refine tj (i := 20) rfl ?_; (try simp only [zS, zN, zT, zC, zZ])
        refine wpAnyH_done (by kernel_rfl) ?_ _
        (try dsimp only)
        repeat (first | go_values | go_skip | go_guarded | go_step | go_upon)
        have fin := iFin SH.out U5.out #[.int .i64 (k : Int), .int .i64 v1, .int .i64 v2, .int .i64 v3, .int .u64 (v4 : Int), .slice A v6.length c, .slice B v7.length d, .slice T v8.length f, .int .i64 v5]
        refine bodyPost_ret (results_cell_row_tmp rfl _ _ w.heap.size _ #[.int .i64 (k : Int), .int .i64 v1, .int .i64 v2, .int .i64 v3, .int .u64 (v4 : Int), .slice A v6.length c, .slice B v7.length d, .slice T v8.length f, .int .i64 v5] (0, 0) _ rfl (setRow_heap w5 w.heap.size #[.int .i64 0, .int .i64 0, .int .i64 0, .int .i64 0, .int .u64 0, .slice none 0 0, .slice none 0 0, .slice none 0 0, .int .i64 0] _ _ (0, 0) V5) Tryz.underlying61 rfl (by kernel_rfl)) rfl ?_
        obtain rfl := HR.out
        exact ⟨⟨A, c, B, d, T, f, rfl, fin.2, SH.out.dc⟩, fin.1⟩
      · have hq2 : (Mc.line (⟨(k : Int), v1, v2, v3, v4, v6, v7, v8, v5⟩ : Mi) == s) = false := by simpa using he
        have HR : Hid (R = ((⟨(k : Int), v1, v2, v3, v4, v6, v7, v8, v5⟩ : Mi), false)) := Lib.hid (by rw [HR.out, hq2]; rfl)
        obtain ⟨J, hJ⟩ : ∃ x, Mc.line (⟨(k : Int), v1, v2, v3, v4, v6, v7, v8, v5⟩ : Mi) = x := ⟨_, rfl⟩
        rw [hJ] at HIns he hq2
        have hq := beq_no he
        clear he hJ
        have SS : (fun W' => W'.cell? ⟨Kx, 0, none⟩ = some (.int .i64 (k : Int)) ∧ W'.cell? ⟨Kx, 1, none⟩ = some (.int .i64 v1) ∧ W'.cell? ⟨Kx, 2, none⟩ = some (.int .i64 v2) ∧ W'.cell? ⟨Kx, 3, none⟩ = some (.int .i64 v3) ∧ W'.cell? ⟨Kx, 4, none⟩ = some (.int .u64 (v4 : Int)) ∧ W'.cell? ⟨Kx, 5, none⟩ = some (.slice A v6.length c) ∧ W'.cell? ⟨Kx, 6, none⟩ = some (.slice B v7.length d) ∧ W'.cell? ⟨Kx, 7, none⟩ = some (.slice T v8.length f) ∧ W'.cell? ⟨Kx, 8, none⟩ = some (.int .i64 v5) ∧ W'.cell? ⟨N, 0, none⟩ = some (.slice A1 0 c1) ∧ W'.cell? ⟨N, 1, none⟩ = some (.bool true)) (World.drew W) := ⟨c0_, c1_, c2_, c3_, c4_, c5_, c6_, c7_, c8_, p0, p1⟩
        dsimp only at SS
        have SSc := SS
        obtain ⟨t0, t1, t2, t3, t4, t5, t6, t7, t8, t9, t10⟩ := SSc
        have VD : (World.drew W).heap[w.heap.size]? = some (.cells #[.int .i64 0, .int .i64 0, .int .i64 0, .int .i64 0, .int .u64 0, .slice none 0 0, .slice none 0 0, .slice none 0 0, .int .i64 0] 61 (0, 0)) := VR
        refine wp_region_held_drew (S := (fun W' => W'.cell? ⟨Kx, 0, none⟩ = some (.int .i64 (k : Int)) ∧ W'.cell? ⟨Kx, 1, none⟩ = some (.int .i64 v1) ∧ W'.cell? ⟨Kx, 2, none⟩ = some (.int .i64 v2) ∧ W'.cell? ⟨Kx, 3, none⟩ = some (.int .i64 v3) ∧ W'.cell? ⟨Kx, 4, none⟩ = some (.int .u64 (v4 : Int)) ∧ W'.cell? ⟨Kx, 5, none⟩ = some (.slice A v6.length c) ∧ W'.cell? ⟨Kx, 6, none⟩ = some (.slice B v7.length d) ∧ W'.cell? ⟨Kx, 7, none⟩ = some (.slice T v8.length f) ∧ W'.cell? ⟨Kx, 8, none⟩ = some (.int .i64 v5) ∧ W'.cell? ⟨N, 0, none⟩ = some (.slice A1 0 c1) ∧ W'.cell? ⟨N, 1, none⟩ = some (.bool true))) (by kernel_rfl) ?_ (fun hHeld0 => ?_)
        · first | assumption | go_keep
        refine tj (i := 0) rfl ?_; (try simp only [zS, zN, zT, zC, zZ])
        refine tj (i := 1) rfl ?_; (try simp only [zS, zN, zT, zC, zZ])
        refine tj (i := 2) rfl ?_; (try simp only [zS, zN, zT, zC, zZ])
        refine tj (i := 3) rfl ?_; (try simp only [zS, zN, zT, zC, zZ])
        refine tj (i := 4) rfl ?_; (try simp only [zS, zN, zT, zC, zZ])
        refine tj (i := 5) rfl ?_; (try simp only [zS, zN, zT, zC, zZ])
        refine tj (i := 6) rfl ?_; (try simp only [zS, zN, zT, zC, zZ])
        refine tj (i := 7) rfl ?_; (try simp only [zS, zN, zT, zC, zZ])
        refine tj (i := 8) rfl ?_; (try simp only [zS, zN, zT, zC, zZ])
        refine tj (i := 9) rfl ?_; (try simp only [zS, zN, zT, zC, zZ])
        refine tj (i := 10) rfl ?_; (try simp only [zS, zN, zT, zC, zZ])
        refine tj (i := 11) rfl ?_; (try simp only [zS, zN, zT, zC, zZ])
        refine tj (i := 12) rfl ?_; (try simp only [zS, zN, zT, zC, zZ])
        refine tj (i := 13) rfl ?_; (try simp only [zS, zN, zT, zC, zZ])
        refine tj (i := 14) rfl ?_; (try simp only [zS, zN, zT, zC, zZ])
        refine tj (i := 16) rfl ?_; (try simp only [zS, zN, zT, zC, zZ])
        refine wpAnyH_ready (rs := [15]) (by kernel_rfl) (by simp) ?_
        refine AllReadyH.cons rfl (fun K hK => ?_) AllReadyH.nil
        go_simp
        (refine HIns.out.mono ?_; rintro e w5 ⟨rfl, hb5⟩; have U5 := Lib.hid ((below_drewN W 1).trans (hb5.mono (Nat.le_refl _))); have V5 := var_keep VR U5.out; have kp := Below.keep U5.out (fun _ => True); have d0 := kp _ _ trivial c0_; have d1 := kp _ _ trivial c1_; have d2 := kp _ _ trivial c2_; have d3 := kp _ _ trivial c3_; have d4 := kp _ _ trivial c4_; have d5 := kp _ _ trivial c5_; have d6 := kp _ _ trivial c6_; have d7 := kp _ _ trivial c7_; have d8 := kp _ _ trivial c8_; have d9 := kp _ _ trivial p0; have d10 := kp _ _ trivial p1; clear kp hb5; have SS5 : (fun W' => W'.cell? ⟨Kx, 0, none⟩ = some (.int .i64 (k : Int)) ∧ W'.cell? ⟨Kx, 1, none⟩ = some (.int .i64 v1) ∧ W'.cell? ⟨Kx, 2, none⟩ = some (.int .i64 v2) ∧ W'.cell? ⟨Kx, 3, none⟩ = some (.int .i64 v3) ∧ W'.cell? ⟨Kx, 4, none⟩ = some (.int .u64 (v4 : Int)) ∧ W'.cell? ⟨Kx, 5, none⟩ = some (.slice A v6.length c) ∧ W'.cell? ⟨Kx, 6, none⟩ = some (.slice B v7.length d) ∧ W'.cell? ⟨Kx, 7, none⟩ = some (.slice T v8.length f) ∧ W'.cell? ⟨Kx, 8, none⟩ = some (.int .i64 v5) ∧ W'.cell? ⟨N, 0, none⟩ = some (.slice A1 0 c1) ∧ W'.cell? ⟨N, 1, none⟩ = some (.bool true)) w5 := ⟨d0, d1, d2, d3, d4, d5, d6, d7, d8, d9, d10⟩; dsimp only at SS5)
        (try dsimp only)
        refine hK.out _ _ ?_ (fun hHeld1 => ?_)
        · first | trivial | ((try dsimp only); first | assumption | trivial | go_keep)
        clear hK K hHeld0
        (try simp only [zS, zN, zT, zC, zZ])
        refine tj (i := 17) rfl ?_; (try simp only [zS, zN, zT, zC, zZ])
        refine tj (i := 18) rfl ?_; (try simp only [zS, zN, zT, zC, zZ])
        refine wpAnyH_ready (rs := [19]) (by kernel_rfl) (by simp) ?_
        refine AllReadyH.cons rfl (fun K hK => ?_) AllReadyH.nil
        (rw [if_pos (by rfl)]; refine wp_store_row 61 (.tmp 2) (.tmp 121) rfl w.heap.size #[.int .i64 (k : Int), .int .i64 v1, .int .i64 v2, .int .i64 v3, .int .u64 (v4 : Int), .slice A v6.length c, .slice B v7.length d, .slice T v8.length f, .int .i64 v5] rfl rfl 61 #[.int .i64 0, .int .i64 0, .int .i64 0, .int .i64 0, .int .u64 0, .slice none 0 0, .slice none 0 0, .slice none 0 0, .int .i64 0] V5 info_mi9 rfl (by simp [Value.oneCell']) ?_; have gS := setRow_grown w5 w.heap.size #[.int .i64 (k : Int), .int .i64 v1, .int .i64 v2, .int .i64 v3, .int .u64 (v4 : Int), .slice A v6.length c, .slice B v7.length d, .slice T v8.length f, .int .i64 v5]; have SS2 : (fun W' => W'.cell? ⟨Kx, 0, none⟩ = some (.int .i64 (k : Int)) ∧ W'.cell? ⟨Kx, 1, none⟩ = some (.int .i64 v1) ∧ W'.cell? ⟨Kx, 2, none⟩ = some (.int .i64 v2) ∧ W'.cell? ⟨Kx, 3, none⟩ = some (.int .i64 v3) ∧ W'.cell? ⟨Kx, 4, none⟩ = some (.int .u64 (v4 : Int)) ∧ W'.cell? ⟨Kx, 5, none⟩ = some (.slice A v6.length c) ∧ W'.cell? ⟨Kx, 6, none⟩ = some (.slice B v7.length d) ∧ W'.cell? ⟨Kx, 7, none⟩ = some (.slice T v8.length f) ∧ W'.cell? ⟨Kx, 8, none⟩ = some (.int .i64 v5) ∧ W'.cell? ⟨N, 0, none⟩ = some (.slice A1 0 c1) ∧ W'.cell? ⟨N, 1, none⟩ = some (.bool true)) (w5.setRow w.heap.size #[.int .i64 (k : Int), .int .i64 v1, .int .i64 v2, .int .i64 v3, .int .u64 (v4 : Int), .slice A v6.length c, .slice B v7.length d, .slice T v8.length f, .int .i64 v5]) := ⟨gS.cell d0 (by simp; omega), gS.cell d1 (by simp; omega), gS.cell d2 (by simp; omega), gS.cell d3 (by simp; omega), gS.cell d4 (by simp; omega), gS.cell d5 (by simp; omega), gS.cell d6 (by simp; omega), gS.cell d7 (by simp; omega), gS.cell d8 (by simp; omega), gS.cell d9 (by simp; omega), gS.cell d10 (by simp; omega)⟩; dsimp only at SS2)
        (try dsimp only)
        refine hK.out _ _ ?_ (fun hHeld2 => ?_)
        · first | trivial | ((try dsimp only); first | assumption | trivial | go_keep)
        clear hK K hHeld1
        (try simp only [zS, zN, zT, zC, zZ])
        refine tj (i := 20) rfl ?_; (try simp only [zS, zN, zT, zC, zZ])
        refine wpAnyH_done (by kernel_rfl) ?_ _
        (try dsimp only)
        repeat (first | go_values | go_skip | go_guarded | go_step | go_upon)
        have fin := iFin SH.out U5.out #[.int .i64 (k : Int), .int .i64 v1, .int .i64 v2, .int .i64 v3, .int .u64 (v4 : Int), .slice A v6.length c, .slice B v7.length d, .slice T v8.length f, .int .i64 v5]
        refine bodyPost_ret (results_cell_row_tmp rfl _ _ w.heap.size _ #[.int .i64 (k : Int), .int .i64 v1, .int .i64 v2, .int .i64 v3, .int .u64 (v4 : Int), .slice A v6.length c, .slice B v7.length d, .slice T v8.length f, .int .i64 v5] (0, 0) _ rfl (setRow_heap w5 w.heap.size #[.int .i64 0, .int .i64 0, .int .i64 0, .int .i64 0, .int .u64 0, .slice none 0 0, .slice none 0 0, .slice none 0 0, .int .i64 0] _ _ (0, 0) V5) Tryz.underlying61 rfl (by kernel_rfl)) rfl ?_
        obtain rfl := HR.out
        exact ⟨⟨A, c, B, d, T, f, rfl, fin.2, SH.out.dc⟩, fin.1⟩
    · have x0 : ¬ ((rl8.length : Int) + 1 = 0) := by omega
      have HR : Hid (R = ((⟨(k : Int), v1, v2, v3, v4, v6, v7, v8, v5⟩ : Mi), false)) := Lib.hid (by rw [HR.out]; rfl)
      simp only [List.length_cons] at p0
      have SS : (fun W' => W'.cell? ⟨Kx, 0, none⟩ = some (.int .i64 (k : Int)) ∧ W'.cell? ⟨Kx, 1, none⟩ = some (.int .i64 v1) ∧ W'.cell? ⟨Kx, 2, none⟩ = some (.int .i64 v2) ∧ W'.cell? ⟨Kx, 3, none⟩ = some (.int .i64 v3) ∧ W'.cell? ⟨Kx, 4, none⟩ = some (.int .u64 (v4 : Int)) ∧ W'.cell? ⟨Kx, 5, none⟩ = some (.slice A v6.length c) ∧ W'.cell? ⟨Kx, 6, none⟩ = some (.slice B v7.length d) ∧ W'.cell? ⟨Kx, 7, none⟩ = some (.slice T v8.length f) ∧ W'.cell? ⟨Kx, 8, none⟩ = some (.int .i64 v5) ∧ W'.cell? ⟨N, 0, none⟩ = some (.slice A1 (rl8.length + 1) c1) ∧ W'.cell? ⟨N, 1, none⟩ = some (.bool true)) (World.drew W) := ⟨c0_, c1_, c2_, c3_, c4_, c5_, c6_, c7_, c8_, p0, p1⟩
      dsimp only at SS
      have SSc := SS
      obtain ⟨t0, t1, t2, t3, t4, t5, t6, t7, t8, t9, t10⟩ := SSc
      have VD : (World.drew W).heap[w.heap.size]? = some (.cells #[.int .i64 0, .int .i64 0, .int .i64 0, .int .i64 0, .int .u64 0, .slice none 0 0, .slice none 0 0, .slice none 0 0, .int .i64 0] 61 (0, 0)) := VR
      refine wp_region_held_drew (S := (fun W' => W'.cell? ⟨Kx, 0, none⟩ = some (.int .i64 (k : Int)) ∧ W'.cell? ⟨Kx, 1, none⟩ = some (.int .i64 v1) ∧ W'.cell? ⟨Kx, 2, none⟩ = some (.int .i64 v2) ∧ W'.cell? ⟨Kx, 3, none⟩ = some (.int .i64 v3) ∧ W'.cell? ⟨Kx, 4, none⟩ = some (.int .u64 (v4 : Int)) ∧ W'.cell? ⟨Kx, 5, none⟩ = some (.slice A v6.length c) ∧ W'.cell? ⟨Kx, 6, none⟩ = some (.slice B v7.length d) ∧ W'.cell? ⟨Kx, 7, none⟩ = some (.slice T v8.length f) ∧ W'.cell? ⟨Kx, 8, none⟩ = some (.int .i64 v5) ∧ W'.cell? ⟨N, 0, none⟩ = some (.slice A1 (rl8.length + 1) c1) ∧ W'.cell? ⟨N, 1, none⟩ = some (.bool true))) (by kernel_rfl) ?_ (fun hHeld0 => ?_)
      · first | assumption | go_keep
      refine tj (i := 0) rfl ?_; (try simp only [zS, zN, zT, zC, zZ])
      refine tj (i := 1) rfl ?_; (try simp only [zS, zN, zT, zC, zZ])
      refine tj (i := 2) rfl ?_; (try simp only [zS, zN, zT, zC, zZ])
      refine tj (i := 3) rfl ?_; (try simp only [zS, zN, zT, zC, zZ])
      refine tj (i := 4) rfl ?_; (try simp only [zS, zN, zT, zC, zZ])
      refine tj (i := 5) rfl ?_; (try simp only [zS, zN, zT, zC, zZ])
      refine tj (i := 6) rfl ?_; (try simp only [zS, zN, zT, zC, zZ])
      refine tj (i := 7) rfl ?_; (try simp only [zS, zN, zT, zC, zZ])
      refine tj (i := 8) rfl ?_; (try simp only [zS, zN, zT, zC, zZ])
      refine tj (i := 9) rfl ?_; (try simp only [zS, zN, zT, zC, zZ])
      refine tj (i := 10) rfl ?_; (try simp only [zS, zN, zT, zC, zZ])
      refine tj (i := 11) rfl ?_; (try simp only [zS, zN, zT, zC, zZ])
      refine tj (i := 12) rfl ?_; (try simp only [zS, zN, zT, zC, zZ])
      refine tj (i := 13) rfl ?_; (try simp only [zS, zN, zT, zC, zZ])
      refine tjN (i := 14) rfl ?_; (try simp only [zS, zN, zT, zC, zZ])
      refine tjN (i := 15) rfl ?_; (try simp only [zS, zN, zT, zC, zZ])
      refine tjN (i := 16) rfl ?_; (try simp only [zS, zN, zT, zC, zZ])
      refine tjN (i := 17) rfl ?_; (try simp only [zS, zN, zT, zC, zZ])
      refine tj (i := 18) rfl ?_; (try simp only [zS, zN, zT, zC, zZ])
      refine wpAnyH_ready (rs := [19]) (by kernel_rfl) (by simp) ?_
      refine AllReadyH.cons rfl (fun K hK => ?_) AllReadyH.nil
      (rw [if_pos (by rfl)]; refine wp_store_row 61 (.tmp 2) (.tmp 121) rfl w.heap.size #[.int .i64 (k : Int), .int .i64 v1, .int .i64 v2, .int .i64 v3, .int .u64 (v4 : Int), .slice A v6.length c, .slice B v7.length d, .slice T v8.length f, .int .i64 v5] rfl rfl 61 #[.int .i64 0, .int .i64 0, .int .i64 0, .int .i64 0, .int .u64 0, .slice none 0 0, .slice none 0 0, .slice none 0 0, .int .i64 0] VD info_mi9 rfl (by simp [Value.oneCell']) ?_; have gS := setRow_grown (World.drew W) w.heap.size #[.int .i64 (k : Int), .int .i64 v1, .int .i64 v2, .int .i64 v3, .int .u64 (v4 : Int), .slice A v6.length c, .slice B v7.length d, .slice T v8.length f, .int .i64 v5]; have SS2 : (fun W' => W'.cell? ⟨Kx, 0, none⟩ = some (.int .i64 (k : Int)) ∧ W'.cell? ⟨Kx, 1, none⟩ = some (.int .i64 v1) ∧ W'.cell? ⟨Kx, 2, none⟩ = some (.int .i64 v2) ∧ W'.cell? ⟨Kx, 3, none⟩ = some (.int .i64 v3) ∧ W'.cell? ⟨Kx, 4, none⟩ = some (.int .u64 (v4 : Int)) ∧ W'.cell? ⟨Kx, 5, none⟩ = some (.slice A v6.length c) ∧ W'.cell? ⟨Kx, 6, none⟩ = some (.slice B v7.length d) ∧ W'.cell? ⟨Kx, 7, none⟩ = some (.slice T v8.length f) ∧ W'.cell? ⟨Kx, 8, none⟩ = some (.int .i64 v5) ∧ W'.cell? ⟨N, 0, none⟩ = some (.slice A1 (rl8.length + 1) c1) ∧ W'.cell? ⟨N, 1, none⟩ = some (.bool true)) ((World.drew W).setRow w.heap.size #[.int .i64 (k : Int), .int .i64 v1, .int .i64 v2, .int .i64 v3, .int .u64 (v4 : Int), .slice A v6.length c, .slice B v7.length d, .slice T v8.length f, .int .i64 v5]) := ⟨gS.cell t0 (by simp; omega), gS.cell t1 (by simp; omega), gS.cell t2 (by simp; omega), gS.cell t3 (by simp; omega), gS.cell t4 (by simp; omega), gS.cell t5 (by simp; omega), gS.cell t6 (by simp; omega), gS.cell t7 (by simp; omega), gS.cell t8 (by simp; omega), gS.cell t9 (by simp; omega), gS.cell t10 (by simp; omega)⟩; dsimp only at SS2)
      (try dsimp only)
      refine hK.out _ _ ?_ (fun hHeld1 => ?_)
      · first | trivial | ((try dsimp only); first | assumption | trivial | go_keep)
      clear hK K hHeld0
      (try simp only [zS, zN, zT, zC, zZ])
      refine tj (i := 20) rfl ?_; (try simp only [zS, zN, zT, zC, zZ])
      refine wpAnyH_done (by kernel_rfl) ?_ _
      (try dsimp only)
      repeat (first | go_values | go_skip | go_guarded | go_step | go_upon)
      have fin := iFin SH.out (below_drewN W 1) #[.int .i64 (k : Int), .int .i64 v1, .int .i64 v2, .int .i64 v3, .int .u64 (v4 : Int), .slice A v6.length c, .slice B v7.length d, .slice T v8.length f, .int .i64 v5]
      refine bodyPost_ret (results_cell_row_tmp rfl _ _ w.heap.size _ #[.int .i64 (k : Int), .int .i64 v1, .int .i64 v2, .int .i64 v3, .int .u64 (v4 : Int), .slice A v6.length c, .slice B v7.length d, .slice T v8.length f, .int .i64 v5] (0, 0) _ rfl (setRow_heap (World.drew W) w.heap.size #[.int .i64 0, .int .i64 0, .int .i64 0, .int .i64 0, .int .u64 0, .slice none 0 0, .slice none 0 0, .slice none 0 0, .int .i64 0] _ _ (0, 0) VR) Tryz.underlying61 rfl (by kernel_rfl)) rfl ?_
      obtain rfl := HR.out
      exact ⟨⟨A, c, B, d, T, f, rfl, fin.2, SH.out.dc⟩, fin.1⟩
end Go.Proofs.YtadnfekogmjieaaGreatDoor
