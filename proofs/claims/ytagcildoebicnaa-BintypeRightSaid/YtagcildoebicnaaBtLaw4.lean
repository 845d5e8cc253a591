/-
  The walk of the law BintypeRight.
-/
import Derived.Test.YtagcildoebicnaaBtRightP
set_option linter.unusedVariables false
set_option linter.unusedSimpArgs false
namespace Go.Proofs.Ytagcildoebicnaa
open Go.RowKit

set_option maxHeartbeats 16000000 in
set_option maxRecDepth 100000 in
theorem bintypeRight_walk (A : Option Addr) (c : Nat) (b : List UInt8) (w : World) (hr : RdB w w.heap.size A b) (hc : b.length ≤ c) (hm : c ≤ maxLen) :
    Calls Try.prog 8 #[.slice A b.length c] w fun e w' => e = .returned (.bool true) ∧ Below w.heap.size w w' := by
  have hbm : b.length ≤ 9223372036854775807 := by unfold maxLen at hm; omega
  clear hm
  by_cases h60 : 60 < b.length
  · have g1 : decide (60 < b.length) = true := by simpa using h60
    have g2 : decide ((60 : Int) < (b.length : Int)) = true := by simp; omega
    clear h60
    go_enter Try.func8, Try.ntmps8
    (try dsimp only)
    go_wp2_with fail
    refine at_world (F := fun w' => Below w.heap.size w w') (by go_grown) ?_
    rintro w1 bw
    have sz := bw.size
    refine (alive_any _).mono ?_
    rintro e w2 ⟨rfl, hb⟩
    replace bw := bw.trans (hb.mono bw.size)
    replace sz := bw.size
    clear hb
    go_wp2
    go_ret
    exact ⟨rfl, bw⟩
  have g1 : decide (60 < b.length) = false := by simpa using h60
  have g2 : decide ((60 : Int) < (b.length : Int)) = false := by simp; omega
  have hb6 : b.length ≤ 1000000 := by omega
  clear h60
  have HR := Lib.hid hr
  clear hr
  have n2 := neq_tab0
  have hf1 := Oct.getFunc_ok (b := b) (s := ⟨0, 0⟩)
  have hf2 := Oct.getFunc_bad (b := b) (s := ⟨0, 0⟩)
  have hgl := Oct.getFunc_len b ⟨0, 0⟩
  obtain ⟨⟨s1, xs, ys⟩, hy⟩ : ∃ y, Oct.getFunc b ⟨0, 0⟩ = y := ⟨_, rfl⟩
  rw [hy] at hf1 hf2 hgl
  have HY := Lib.hid hy
  clear hy
  obtain ⟨hx8, hy8⟩ := hgl
  dsimp only at hf1 hf2 hx8 hy8
  have ht1 := Oct.getTable_ok (b := b) (s := ⟨0, 0⟩)
  have ht2 := Oct.getTable_bad (b := b) (s := ⟨0, 0⟩)
  obtain ⟨⟨s2, z0, ⟨z1, z2, z3⟩⟩, hy⟩ : ∃ y, Oct.getTable b ⟨0, 0⟩ = y := ⟨_, rfl⟩
  rw [hy] at ht1 ht2
  have HZ := Lib.hid hy
  clear hy
  dsimp only at ht1 ht2
  have hk := Oct.getBlock_ok b ⟨0, 0⟩
  obtain ⟨⟨s3, k⟩, hy⟩ : ∃ y, Oct.getBlock b ⟨0, 0⟩ = y := ⟨_, rfl⟩
  rw [hy] at hk
  have HK := Lib.hid hy
  clear hy
  dsimp only at hk
  have hbe := Oct.putBlock_err hk.1
  have gB : ((Oct.putBlock ⟨[], 0⟩ k).err == 0) = true := by simpa using hbe
  have hpl : (Oct.putBlock ⟨[], 0⟩ k).b.length ≤ 1000 := Oct.putBlock_len1000 k 0
  have hk3 := hk.2
  clear hbe hk
  obtain ⟨k1, k2, k3⟩ := k
  have neb := eq_blk 0 0 0 0 0 0
  by_cases h1 : s1.err = 0
  · have f1 : (s1.err == 0) = true := by simpa using h1
    have f2 : (s1.err != 0) = false := by simpa using h1
    have HF := Lib.hid (hf1 h1)
    clear h1 hf1 hf2
    by_cases h2 : s2.err = 0
    · have i1 : (s2.err == 0) = true := by simpa using h2
      have i2 : (s2.err != 0) = false := by simpa using h2
      have hto := ht1 h2
      have hte := Oct.putTable_err (s := ⟨[], 0⟩) rfl hto.1 hto.2
      have gT : ((Oct.putTable ⟨[], 0⟩ z0 ⟨z1, z2, z3⟩).err != 0) = false := by simpa using hte
      have hpt : (Oct.putTable ⟨[], 0⟩ z0 ⟨z1, z2, z3⟩).b.length ≤ 1000 := by have := Oct.putTable_len ⟨[], 0⟩ z0 ⟨z1, z2, z3⟩; simp at this; omega
      clear h2 ht1 ht2 hto hte
      by_cases h3 : s3.err = 0
      · have j1 : (s3.err == 0) = true := by simpa using h3
        have j2 : (s3.err != 0) = false := by simpa using h3
        clear h3 hk3
        go_enter Try.func8, Try.ntmps8
        (try dsimp only)
        go_wp2_with fail
        refine at_world (F := fun w' => Below w.heap.size w w') (by go_grown) ?_
        rintro w1 bw
        have sz := bw.size
        refine (read_any w1 _ (Nat.le_refl _) A c _ b rfl ((HR.out.below bw).more bw.size) hb6).mono ?_
        rintro e w2 ⟨p_r, u_r, rfl, h_r, hb, hf⟩
        have sb_r : w.heap.size ≤ w1.heap.size := sz
        replace bw := bw.trans (hb.mono bw.size)
        replace sz := bw.size
        clear hb hf
        skip
        have lt_r : ∀ k, (Ft p_r u_r) k → k < w2.heap.size := fun k hk => (h_r.ft hk).2
        (try dsimp only)
        go_wp2_with fail
        refine (getFunc_any h_r).mono ?_
        rintro e w3 ⟨X1, e1, X2, e2, rfl, L1, L2, st⟩
        rw [HY.out] at st L1 L2; obtain ⟨hh, tt⟩ := st; rw [HY.out]; have R_x1 := L1.rd; have R_x2 := L2.rd; clear L1 L2; dsimp only at R_x1 R_x2
        clear h_r
        have h_r := hh
        replace bw := bw.trans (tt.bel.mono sb_r)
        replace sz := bw.size
        clear hh tt
        clear lt_r
        have lt_r : ∀ k, (Ft p_r u_r) k → k < w3.heap.size := fun k hk => (h_r.ft hk).2
        (try dsimp only)
        go_wp2_with fail
        refine at_world (F := fun w' => Var w' (w3.heap.size) #[.slice X1 xs.length e1, .slice X2 ys.length e2] 76 ∧ RdrAt w' w1.heap.size p_r u_r b s1 ∧ RdI w' w'.heap.size X1 xs ∧ RdI w' w'.heap.size X2 ys ∧ w3.heap.size ≤ w'.heap.size ∧ Below w.heap.size w w') ⟨Var.newE _ _ _ rfl, h_r.below (by go_grown), (R_x1.below (by go_grown)).more (by go_size), (R_x2.below (by go_grown)).more (by go_size), by go_size, by go_grown⟩ ?_
        clear  h_r bw sz
        rintro w4 ⟨v_x, h_r, R_x1, R_x2, szn, bw⟩
        have sz := bw.size
        have D_r_x : DJ (Ft p_r u_r) (· = w3.heap.size) := DJ.fresh lt_r (N := w3.heap.size) (fun k hk => by subst hk; omega)
        clear lt_r
        have lt_r : ∀ k, (Ft p_r u_r) k → k < w4.heap.size := fun k hk => (h_r.ft hk).2
        clear szn
        refine (err_any h_r).mono ?_
        rintro e wq ⟨rfl, rfl⟩
        have q_x := v_x.cells
        have l_x := v_x.lt
        (try dsimp only)
        go_wp2_with fail
        clear q_x l_x
        refine (err_any h_r).mono ?_
        rintro e wq ⟨rfl, rfl⟩
        have q_x := v_x.cells
        have l_x := v_x.lt
        (try dsimp only)
        go_wp2_with fail
        clear q_x l_x
        refine (refRight_any X1 X2 e1 e2 xs ys _ R_x1 R_x2 (by omega) (by omega)).mono ?_
        rintro e w5 ⟨rfl, hb⟩
        replace v_x := v_x.below hb v_x.lt
        replace h_r := h_r.below hb
        replace R_x1 := (R_x1.below hb).more hb.size
        replace R_x2 := (R_x2.below hb).more hb.size
        rw [HF.out]
        replace bw := bw.trans (hb.mono bw.size)
        replace sz := bw.size
        clear hb
        clear lt_r
        have lt_r : ∀ k, (Ft p_r u_r) k → k < w5.heap.size := fun k hk => (h_r.ft hk).2
        have q_x := v_x.cells
        have l_x := v_x.lt
        clear R_x1 R_x2
        (try dsimp only)
        go_wp2_with fail
        clear q_x l_x
        have lq_x := v_x.lt
        refine (read_any w5 _ (Nat.le_refl _) A c _ b rfl ((HR.out.below bw).more bw.size) hb6).mono ?_
        rintro e w6 ⟨p_q, u_q, rfl, h_q, hb, hf⟩
        replace v_x := v_x.below hb v_x.lt
        replace h_r := h_r.below hb
        have D_q_x : DJ (Ft p_q u_q) (· = w3.heap.size) := (DJ.fresh (N := w5.heap.size) (fun k hk => by subst hk; exact lq_x) hf).symm
        have D_q_r : DJ (Ft p_q u_q) (Ft p_r u_r) := (DJ.fresh lt_r (N := w5.heap.size) hf).symm
        have sb_q : w.heap.size ≤ w5.heap.size := sz
        replace bw := bw.trans (hb.mono bw.size)
        replace sz := bw.size
        clear hb hf lq_x
        clear lt_r
        have lt_r : ∀ k, (Ft p_r u_r) k → k < w6.heap.size := fun k hk => (h_r.ft hk).2
        skip
        have lt_q : ∀ k, (Ft p_q u_q) k → k < w6.heap.size := fun k hk => (h_q.ft hk).2
        have q_x := v_x.cells
        have l_x := v_x.lt
        clear h_r lt_r sb_r D_r_x D_q_r
        (try dsimp only)
        go_wp2_with fail
        clear q_x l_x
        have lq_x := v_x.lt
        refine (getTable_any h_q).mono ?_
        rintro e w7 ⟨rfl, st⟩
        rw [HZ.out] at st; obtain ⟨hh, tt⟩ := st; rw [HZ.out]
        replace v_x := v_x.trn tt D_q_x
        replace D_q_x : DJ (Ft p_q u_q) (· = w3.heap.size) := D_q_x.step tt (fun k hk => by subst hk; exact lq_x)
        clear h_q
        have h_q := hh
        replace bw := bw.trans (tt.bel.mono sb_q)
        replace sz := bw.size
        clear hh tt lq_x
        clear lt_q
        have lt_q : ∀ k, (Ft p_q u_q) k → k < w7.heap.size := fun k hk => (h_q.ft hk).2
        have q_x := v_x.cells
        have l_x := v_x.lt
        have d_x_t := v_x.lt
        (try dsimp only)
        go_wp2_with fail
        refine at_world (F := fun w' => Var w' (w3.heap.size) #[.slice X1 xs.length e1, .slice X2 ys.length e2] 76 ∧ Var w' (w7.heap.size) #[.int .i64 z0, .int .i64 z1, .int .i64 z2, .bool z3] 54 ∧ RdrAt w' w5.heap.size p_q u_q b s2 ∧ w7.heap.size ≤ w'.heap.size ∧ Below w.heap.size w w') ⟨(v_x).alloc _, Var.newE _ _ _ rfl, h_q.below (by go_grown), by go_size, by go_grown⟩ ?_
        clear q_x l_x v_x h_q bw sz
        rintro w8 ⟨v_x, v_t, h_q, szn, bw⟩
        have sz := bw.size
        have D_q_t : DJ (Ft p_q u_q) (· = w7.heap.size) := DJ.fresh lt_q (N := w7.heap.size) (fun k hk => by subst hk; omega)
        clear lt_q
        have lt_q : ∀ k, (Ft p_q u_q) k → k < w8.heap.size := fun k hk => (h_q.ft hk).2
        clear szn
        have lq_x := v_x.lt
        have lq_t := v_t.lt
        refine (new_any w8 _ (Nat.le_refl _)).mono ?_
        rintro e w9 ⟨p_a, u_a, rfl, h_a, hb, hf⟩
        replace v_x := v_x.below hb v_x.lt
        replace v_t := v_t.below hb v_t.lt
        replace h_q := h_q.below hb
        have D_a_x : DJ (Ft p_a u_a) (· = w3.heap.size) := (DJ.fresh (N := w8.heap.size) (fun k hk => by subst hk; exact lq_x) hf).symm
        have D_a_t : DJ (Ft p_a u_a) (· = w7.heap.size) := (DJ.fresh (N := w8.heap.size) (fun k hk => by subst hk; exact lq_t) hf).symm
        have D_a_q : DJ (Ft p_a u_a) (Ft p_q u_q) := (DJ.fresh lt_q (N := w8.heap.size) hf).symm
        have sb_a : w.heap.size ≤ w8.heap.size := sz
        replace bw := bw.trans (hb.mono bw.size)
        replace sz := bw.size
        clear hb hf lq_x lq_t
        clear lt_q
        have lt_q : ∀ k, (Ft p_q u_q) k → k < w9.heap.size := fun k hk => (h_q.ft hk).2
        skip
        have lt_a : ∀ k, (Ft p_a u_a) k → k < w9.heap.size := fun k hk => (h_a.ft hk).2
        have q_x := v_x.cells
        have l_x := v_x.lt
        have q_t := v_t.cells
        have l_t := v_t.lt
        (try dsimp only)
        go_wp2_with fail
        clear q_x l_x q_t l_t
        have lq_x := v_x.lt
        have lq_t := v_t.lt
        refine (putTable_any h_a z0 ⟨z1, z2, z3⟩ (by simp)).mono ?_
        rintro e w10 ⟨rfl, u10_a, hh, tt⟩
        replace v_x := v_x.trn tt D_a_x
        replace v_t := v_t.trn tt D_a_t
        replace h_q := h_q.besideD tt D_a_q
        replace D_a_x : DJ (Ft p_a u10_a) (· = w3.heap.size) := D_a_x.step tt (fun k hk => by subst hk; exact lq_x)
        replace D_a_t : DJ (Ft p_a u10_a) (· = w7.heap.size) := D_a_t.step tt (fun k hk => by subst hk; exact lq_t)
        replace D_a_q : DJ (Ft p_a u10_a) (Ft p_q u_q) := D_a_q.step tt lt_q
        clear h_a
        have h_a := hh
        replace bw := bw.trans (tt.bel.mono sb_a)
        replace sz := bw.size
        clear hh tt lq_x lq_t
        clear lt_q
        have lt_q : ∀ k, (Ft p_q u_q) k → k < w10.heap.size := fun k hk => (h_q.ft hk).2
        clear lt_a
        have lt_a : ∀ k, (Ft p_a u10_a) k → k < w10.heap.size := fun k hk => (h_a.ft hk).2
        have q_x := v_x.cells
        have l_x := v_x.lt
        have q_t := v_t.cells
        have l_t := v_t.lt
        (try dsimp only)
        go_wp2_with fail
        clear q_x l_x q_t l_t
        refine (wdone_any h_a (by omega)).mono ?_
        rintro e w11 ⟨A2, c2, rfl, hA2, hb⟩
        replace v_x := v_x.below hb v_x.lt
        replace v_t := v_t.below hb v_t.lt
        replace h_q := h_q.below hb
        replace h_a := h_a.below hb
        replace bw := bw.trans (hb.mono bw.size)
        replace sz := bw.size
        clear hb
        clear lt_q
        have lt_q : ∀ k, (Ft p_q u_q) k → k < w11.heap.size := fun k hk => (h_q.ft hk).2
        clear lt_a
        have lt_a : ∀ k, (Ft p_a u10_a) k → k < w11.heap.size := fun k hk => (h_a.ft hk).2
        have q_x := v_x.cells
        have l_x := v_x.lt
        have q_t := v_t.cells
        have l_t := v_t.lt
        clear h_a lt_a sb_a D_a_x D_a_t D_a_q
        (try dsimp only)
        go_wp2_with fail
        clear q_x l_x q_t l_t
        refine (err_any h_q).mono ?_
        rintro e wq ⟨rfl, rfl⟩
        have q_x := v_x.cells
        have l_x := v_x.lt
        have q_t := v_t.cells
        have l_t := v_t.lt
        (try dsimp only)
        go_wp2_with fail
        clear q_x l_x q_t l_t
        refine (err_any h_q).mono ?_
        rintro e wq ⟨rfl, rfl⟩
        have q_x := v_x.cells
        have l_x := v_x.lt
        have q_t := v_t.cells
        have l_t := v_t.lt
        (try dsimp only)
        go_wp2_with fail
        clear q_x l_x q_t l_t
        have lq_x := v_x.lt
        have lq_t := v_t.lt
        refine (read_any w11 _ (Nat.le_refl _) A c _ b rfl ((HR.out.below bw).more bw.size) hb6).mono ?_
        rintro e w12 ⟨p_p, u_p, rfl, h_p, hb, hf⟩
        replace v_x := v_x.below hb v_x.lt
        replace v_t := v_t.below hb v_t.lt
        replace h_q := h_q.below hb
        have D_p_x : DJ (Ft p_p u_p) (· = w3.heap.size) := (DJ.fresh (N := w11.heap.size) (fun k hk => by subst hk; exact lq_x) hf).symm
        have D_p_t : DJ (Ft p_p u_p) (· = w7.heap.size) := (DJ.fresh (N := w11.heap.size) (fun k hk => by subst hk; exact lq_t) hf).symm
        have D_p_q : DJ (Ft p_p u_p) (Ft p_q u_q) := (DJ.fresh lt_q (N := w11.heap.size) hf).symm
        have sb_p : w.heap.size ≤ w11.heap.size := sz
        replace bw := bw.trans (hb.mono bw.size)
        replace sz := bw.size
        clear hb hf lq_x lq_t
        clear lt_q
        have lt_q : ∀ k, (Ft p_q u_q) k → k < w12.heap.size := fun k hk => (h_q.ft hk).2
        skip
        have lt_p : ∀ k, (Ft p_p u_p) k → k < w12.heap.size := fun k hk => (h_p.ft hk).2
        have q_x := v_x.cells
        have l_x := v_x.lt
        have q_t := v_t.cells
        have l_t := v_t.lt
        clear h_q lt_q sb_q D_q_x D_q_t D_p_q
        (try dsimp only)
        go_wp2_with fail
        clear q_x l_x q_t l_t
        have lq_x := v_x.lt
        have lq_t := v_t.lt
        refine (getBlock_any h_p).mono ?_
        rintro e w13 ⟨rfl, st⟩
        rw [HK.out] at st; obtain ⟨hh, tt⟩ := st; rw [HK.out]
        replace v_x := v_x.trn tt D_p_x
        replace v_t := v_t.trn tt D_p_t
        replace D_p_x : DJ (Ft p_p u_p) (· = w3.heap.size) := D_p_x.step tt (fun k hk => by subst hk; exact lq_x)
        replace D_p_t : DJ (Ft p_p u_p) (· = w7.heap.size) := D_p_t.step tt (fun k hk => by subst hk; exact lq_t)
        clear h_p
        have h_p := hh
        replace bw := bw.trans (tt.bel.mono sb_p)
        replace sz := bw.size
        clear hh tt lq_x lq_t
        clear lt_p
        have lt_p : ∀ k, (Ft p_p u_p) k → k < w13.heap.size := fun k hk => (h_p.ft hk).2
        have q_x := v_x.cells
        have l_x := v_x.lt
        have q_t := v_t.cells
        have l_t := v_t.lt
        have d_x_k := v_x.lt
        have d_t_k := v_t.lt
        (try dsimp only)
        go_wp2_with fail
        refine at_world (F := fun w' => Var w' (w3.heap.size) #[.slice X1 xs.length e1, .slice X2 ys.length e2] 76 ∧ Var w' (w7.heap.size) #[.int .i64 z0, .int .i64 z1, .int .i64 z2, .bool z3] 54 ∧ Var w' (w13.heap.size) #[.int .i64 k1, .int .i64 k2, .int .i64 k3] 25 ∧ RdrAt w' w11.heap.size p_p u_p b s3 ∧ w13.heap.size ≤ w'.heap.size ∧ Below w.heap.size w w') ⟨(v_x).alloc _, (v_t).alloc _, Var.newE _ _ _ rfl, h_p.below (by go_grown), by go_size, by go_grown⟩ ?_
        clear q_x l_x v_x q_t l_t v_t h_p bw sz
        rintro w14 ⟨v_x, v_t, v_k, h_p, szn, bw⟩
        have sz := bw.size
        have D_p_k : DJ (Ft p_p u_p) (· = w13.heap.size) := DJ.fresh lt_p (N := w13.heap.size) (fun k hk => by subst hk; omega)
        clear lt_p
        have lt_p : ∀ k, (Ft p_p u_p) k → k < w14.heap.size := fun k hk => (h_p.ft hk).2
        clear szn
        have lq_x := v_x.lt
        have lq_t := v_t.lt
        have lq_k := v_k.lt
        refine (new_any w14 _ (Nat.le_refl _)).mono ?_
        rintro e w15 ⟨p_d, u_d, rfl, h_d, hb, hf⟩
        replace v_x := v_x.below hb v_x.lt
        replace v_t := v_t.below hb v_t.lt
        replace v_k := v_k.below hb v_k.lt
        replace h_p := h_p.below hb
        have D_d_x : DJ (Ft p_d u_d) (· = w3.heap.size) := (DJ.fresh (N := w14.heap.size) (fun k hk => by subst hk; exact lq_x) hf).symm
        have D_d_t : DJ (Ft p_d u_d) (· = w7.heap.size) := (DJ.fresh (N := w14.heap.size) (fun k hk => by subst hk; exact lq_t) hf).symm
        have D_d_k : DJ (Ft p_d u_d) (· = w13.heap.size) := (DJ.fresh (N := w14.heap.size) (fun k hk => by subst hk; exact lq_k) hf).symm
        have D_d_p : DJ (Ft p_d u_d) (Ft p_p u_p) := (DJ.fresh lt_p (N := w14.heap.size) hf).symm
        have sb_d : w.heap.size ≤ w14.heap.size := sz
        replace bw := bw.trans (hb.mono bw.size)
        replace sz := bw.size
        clear hb hf lq_x lq_t lq_k
        clear lt_p
        have lt_p : ∀ k, (Ft p_p u_p) k → k < w15.heap.size := fun k hk => (h_p.ft hk).2
        skip
        have lt_d : ∀ k, (Ft p_d u_d) k → k < w15.heap.size := fun k hk => (h_d.ft hk).2
        have q_x := v_x.cells
        have l_x := v_x.lt
        have q_t := v_t.cells
        have l_t := v_t.lt
        have q_k := v_k.cells
        have l_k := v_k.lt
        (try dsimp only)
        go_wp2_with fail
        clear q_x l_x q_t l_t q_k l_k
        have lq_x := v_x.lt
        have lq_t := v_t.lt
        have lq_k := v_k.lt
        refine (putBlock_any h_d ⟨k1, k2, k3⟩ (by simp)).mono ?_
        rintro e w16 ⟨rfl, u16_d, hh, tt⟩
        replace v_x := v_x.trn tt D_d_x
        replace v_t := v_t.trn tt D_d_t
        replace v_k := v_k.trn tt D_d_k
        replace h_p := h_p.besideD tt D_d_p
        replace D_d_x : DJ (Ft p_d u16_d) (· = w3.heap.size) := D_d_x.step tt (fun k hk => by subst hk; exact lq_x)
        replace D_d_t : DJ (Ft p_d u16_d) (· = w7.heap.size) := D_d_t.step tt (fun k hk => by subst hk; exact lq_t)
        replace D_d_k : DJ (Ft p_d u16_d) (· = w13.heap.size) := D_d_k.step tt (fun k hk => by subst hk; exact lq_k)
        replace D_d_p : DJ (Ft p_d u16_d) (Ft p_p u_p) := D_d_p.step tt lt_p
        clear h_d
        have h_d := hh
        replace bw := bw.trans (tt.bel.mono sb_d)
        replace sz := bw.size
        clear hh tt lq_x lq_t lq_k
        clear lt_p
        have lt_p : ∀ k, (Ft p_p u_p) k → k < w16.heap.size := fun k hk => (h_p.ft hk).2
        clear lt_d
        have lt_d : ∀ k, (Ft p_d u16_d) k → k < w16.heap.size := fun k hk => (h_d.ft hk).2
        have q_x := v_x.cells
        have l_x := v_x.lt
        have q_t := v_t.cells
        have l_t := v_t.lt
        have q_k := v_k.cells
        have l_k := v_k.lt
        (try dsimp only)
        go_wp2_with fail
        clear q_x l_x q_t l_t q_k l_k
        refine (wdone_any h_d (by omega)).mono ?_
        rintro e w17 ⟨A3, c3, rfl, hA3, hb⟩
        replace v_x := v_x.below hb v_x.lt
        replace v_t := v_t.below hb v_t.lt
        replace v_k := v_k.below hb v_k.lt
        replace h_p := h_p.below hb
        replace h_d := h_d.below hb
        replace bw := bw.trans (hb.mono bw.size)
        replace sz := bw.size
        clear hb
        clear lt_p
        have lt_p : ∀ k, (Ft p_p u_p) k → k < w17.heap.size := fun k hk => (h_p.ft hk).2
        clear lt_d
        have lt_d : ∀ k, (Ft p_d u16_d) k → k < w17.heap.size := fun k hk => (h_d.ft hk).2
        have q_x := v_x.cells
        have l_x := v_x.lt
        have q_t := v_t.cells
        have l_t := v_t.lt
        have q_k := v_k.cells
        have l_k := v_k.lt
        clear h_d lt_d sb_d D_d_x D_d_t D_d_k D_d_p
        (try dsimp only)
        go_wp2_with fail
        clear q_x l_x q_t l_t q_k l_k
        refine (err_any h_p).mono ?_
        rintro e wq ⟨rfl, rfl⟩
        have q_x := v_x.cells
        have l_x := v_x.lt
        have q_t := v_t.cells
        have l_t := v_t.lt
        have q_k := v_k.cells
        have l_k := v_k.lt
        (try dsimp only)
        go_wp2_with fail
        clear q_x l_x q_t l_t q_k l_k
        refine (alive_any _).mono ?_
        rintro e w18 ⟨rfl, hb⟩
        replace v_x := v_x.below hb v_x.lt
        replace v_t := v_t.below hb v_t.lt
        replace v_k := v_k.below hb v_k.lt
        replace h_p := h_p.below hb
        replace bw := bw.trans (hb.mono bw.size)
        replace sz := bw.size
        clear hb
        clear lt_p
        have lt_p : ∀ k, (Ft p_p u_p) k → k < w18.heap.size := fun k hk => (h_p.ft hk).2
        have q_x := v_x.cells
        have l_x := v_x.lt
        have q_t := v_t.cells
        have l_t := v_t.lt
        have q_k := v_k.cells
        have l_k := v_k.lt
        go_wp2
        go_ret
        exact ⟨rfl, bw⟩
      · have j1 : (s3.err == 0) = false := by simpa using h3
        have j2 : (s3.err != 0) = true := by simpa using h3
        have hz : (⟨k1, k2, k3⟩ : Oct.Blk) = ⟨0, 0, 0⟩ := hk3.resolve_left h3
        injection hz with hz1 hz2 hz3
        subst hz1 hz2 hz3
        clear h3 hk3
        go_enter Try.func8, Try.ntmps8
        (try dsimp only)
        go_wp2_with fail
        refine at_world (F := fun w' => Below w.heap.size w w') (by go_grown) ?_
        rintro w1 bw
        have sz := bw.size
        refine (read_any w1 _ (Nat.le_refl _) A c _ b rfl ((HR.out.below bw).more bw.size) hb6).mono ?_
        rintro e w2 ⟨p_r, u_r, rfl, h_r, hb, hf⟩
        have sb_r : w.heap.size ≤ w1.heap.size := sz
        replace bw := bw.trans (hb.mono bw.size)
        replace sz := bw.size
        clear hb hf
        skip
        have lt_r : ∀ k, (Ft p_r u_r) k → k < w2.heap.size := fun k hk => (h_r.ft hk).2
        (try dsimp only)
        go_wp2_with fail
        refine (getFunc_any h_r).mono ?_
        rintro e w3 ⟨X1, e1, X2, e2, rfl, L1, L2, st⟩
        rw [HY.out] at st L1 L2; obtain ⟨hh, tt⟩ := st; rw [HY.out]; have R_x1 := L1.rd; have R_x2 := L2.rd; clear L1 L2; dsimp only at R_x1 R_x2
        clear h_r
        have h_r := hh
        replace bw := bw.trans (tt.bel.mono sb_r)
        replace sz := bw.size
        clear hh tt
        clear lt_r
        have lt_r : ∀ k, (Ft p_r u_r) k → k < w3.heap.size := fun k hk => (h_r.ft hk).2
        (try dsimp only)
        go_wp2_with fail
        refine at_world (F := fun w' => Var w' (w3.heap.size) #[.slice X1 xs.length e1, .slice X2 ys.length e2] 76 ∧ RdrAt w' w1.heap.size p_r u_r b s1 ∧ RdI w' w'.heap.size X1 xs ∧ RdI w' w'.heap.size X2 ys ∧ w3.heap.size ≤ w'.heap.size ∧ Below w.heap.size w w') ⟨Var.newE _ _ _ rfl, h_r.below (by go_grown), (R_x1.below (by go_grown)).more (by go_size), (R_x2.below (by go_grown)).more (by go_size), by go_size, by go_grown⟩ ?_
        clear  h_r bw sz
        rintro w4 ⟨v_x, h_r, R_x1, R_x2, szn, bw⟩
        have sz := bw.size
        have D_r_x : DJ (Ft p_r u_r) (· = w3.heap.size) := DJ.fresh lt_r (N := w3.heap.size) (fun k hk => by subst hk; omega)
        clear lt_r
        have lt_r : ∀ k, (Ft p_r u_r) k → k < w4.heap.size := fun k hk => (h_r.ft hk).2
        clear szn
        refine (err_any h_r).mono ?_
        rintro e wq ⟨rfl, rfl⟩
        have q_x := v_x.cells
        have l_x := v_x.lt
        (try dsimp only)
        go_wp2_with fail
        clear q_x l_x
        refine (err_any h_r).mono ?_
        rintro e wq ⟨rfl, rfl⟩
        have q_x := v_x.cells
        have l_x := v_x.lt
        (try dsimp only)
        go_wp2_with fail
        clear q_x l_x
        refine (refRight_any X1 X2 e1 e2 xs ys _ R_x1 R_x2 (by omega) (by omega)).mono ?_
        rintro e w5 ⟨rfl, hb⟩
        replace v_x := v_x.below hb v_x.lt
        replace h_r := h_r.below hb
        replace R_x1 := (R_x1.below hb).more hb.size
        replace R_x2 := (R_x2.below hb).more hb.size
        rw [HF.out]
        replace bw := bw.trans (hb.mono bw.size)
        replace sz := bw.size
        clear hb
        clear lt_r
        have lt_r : ∀ k, (Ft p_r u_r) k → k < w5.heap.size := fun k hk => (h_r.ft hk).2
        have q_x := v_x.cells
        have l_x := v_x.lt
        clear R_x1 R_x2
        (try dsimp only)
        go_wp2_with fail
        clear q_x l_x
        have lq_x := v_x.lt
        refine (read_any w5 _ (Nat.le_refl _) A c _ b rfl ((HR.out.below bw).more bw.size) hb6).mono ?_
        rintro e w6 ⟨p_q, u_q, rfl, h_q, hb, hf⟩
        replace v_x := v_x.below hb v_x.lt
        replace h_r := h_r.below hb
        have D_q_x : DJ (Ft p_q u_q) (· = w3.heap.size) := (DJ.fresh (N := w5.heap.size) (fun k hk => by subst hk; exact lq_x) hf).symm
        have D_q_r : DJ (Ft p_q u_q) (Ft p_r u_r) := (DJ.fresh lt_r (N := w5.heap.size) hf).symm
        have sb_q : w.heap.size ≤ w5.heap.size := sz
        replace bw := bw.trans (hb.mono bw.size)
        replace sz := bw.size
        clear hb hf lq_x
        clear lt_r
        have lt_r : ∀ k, (Ft p_r u_r) k → k < w6.heap.size := fun k hk => (h_r.ft hk).2
        skip
        have lt_q : ∀ k, (Ft p_q u_q) k → k < w6.heap.size := fun k hk => (h_q.ft hk).2
        have q_x := v_x.cells
        have l_x := v_x.lt
        clear h_r lt_r sb_r D_r_x D_q_r
        (try dsimp only)
        go_wp2_with fail
        clear q_x l_x
        have lq_x := v_x.lt
        refine (getTable_any h_q).mono ?_
        rintro e w7 ⟨rfl, st⟩
        rw [HZ.out] at st; obtain ⟨hh, tt⟩ := st; rw [HZ.out]
        replace v_x := v_x.trn tt D_q_x
        replace D_q_x : DJ (Ft p_q u_q) (· = w3.heap.size) := D_q_x.step tt (fun k hk => by subst hk; exact lq_x)
        clear h_q
        have h_q := hh
        replace bw := bw.trans (tt.bel.mono sb_q)
        replace sz := bw.size
        clear hh tt lq_x
        clear lt_q
        have lt_q : ∀ k, (Ft p_q u_q) k → k < w7.heap.size := fun k hk => (h_q.ft hk).2
        have q_x := v_x.cells
        have l_x := v_x.lt
        have d_x_t := v_x.lt
        (try dsimp only)
        go_wp2_with fail
        refine at_world (F := fun w' => Var w' (w3.heap.size) #[.slice X1 xs.length e1, .slice X2 ys.length e2] 76 ∧ Var w' (w7.heap.size) #[.int .i64 z0, .int .i64 z1, .int .i64 z2, .bool z3] 54 ∧ RdrAt w' w5.heap.size p_q u_q b s2 ∧ w7.heap.size ≤ w'.heap.size ∧ Below w.heap.size w w') ⟨(v_x).alloc _, Var.newE _ _ _ rfl, h_q.below (by go_grown), by go_size, by go_grown⟩ ?_
        clear q_x l_x v_x h_q bw sz
        rintro w8 ⟨v_x, v_t, h_q, szn, bw⟩
        have sz := bw.size
        have D_q_t : DJ (Ft p_q u_q) (· = w7.heap.size) := DJ.fresh lt_q (N := w7.heap.size) (fun k hk => by subst hk; omega)
        clear lt_q
        have lt_q : ∀ k, (Ft p_q u_q) k → k < w8.heap.size := fun k hk => (h_q.ft hk).2
        clear szn
        have lq_x := v_x.lt
        have lq_t := v_t.lt
        refine (new_any w8 _ (Nat.le_refl _)).mono ?_
        rintro e w9 ⟨p_a, u_a, rfl, h_a, hb, hf⟩
        replace v_x := v_x.below hb v_x.lt
        replace v_t := v_t.below hb v_t.lt
        replace h_q := h_q.below hb
        have D_a_x : DJ (Ft p_a u_a) (· = w3.heap.size) := (DJ.fresh (N := w8.heap.size) (fun k hk => by subst hk; exact lq_x) hf).symm
        have D_a_t : DJ (Ft p_a u_a) (· = w7.heap.size) := (DJ.fresh (N := w8.heap.size) (fun k hk => by subst hk; exact lq_t) hf).symm
        have D_a_q : DJ (Ft p_a u_a) (Ft p_q u_q) := (DJ.fresh lt_q (N := w8.heap.size) hf).symm
        have sb_a : w.heap.size ≤ w8.heap.size := sz
        replace bw := bw.trans (hb.mono bw.size)
        replace sz := bw.size
        clear hb hf lq_x lq_t
        clear lt_q
        have lt_q : ∀ k, (Ft p_q u_q) k → k < w9.heap.size := fun k hk => (h_q.ft hk).2
        skip
        have lt_a : ∀ k, (Ft p_a u_a) k → k < w9.heap.size := fun k hk => (h_a.ft hk).2
        have q_x := v_x.cells
        have l_x := v_x.lt
        have q_t := v_t.cells
        have l_t := v_t.lt
        (try dsimp only)
        go_wp2_with fail
        clear q_x l_x q_t l_t
        have lq_x := v_x.lt
        have lq_t := v_t.lt
        refine (putTable_any h_a z0 ⟨z1, z2, z3⟩ (by simp)).mono ?_
        rintro e w10 ⟨rfl, u10_a, hh, tt⟩
        replace v_x := v_x.trn tt D_a_x
        replace v_t := v_t.trn tt D_a_t
        replace h_q := h_q.besideD tt D_a_q
        replace D_a_x : DJ (Ft p_a u10_a) (· = w3.heap.size) := D_a_x.step tt (fun k hk => by subst hk; exact lq_x)
        replace D_a_t : DJ (Ft p_a u10_a) (· = w7.heap.size) := D_a_t.step tt (fun k hk => by subst hk; exact lq_t)
        replace D_a_q : DJ (Ft p_a u10_a) (Ft p_q u_q) := D_a_q.step tt lt_q
        clear h_a
        have h_a := hh
        replace bw := bw.trans (tt.bel.mono sb_a)
        replace sz := bw.size
        clear hh tt lq_x lq_t
        clear lt_q
        have lt_q : ∀ k, (Ft p_q u_q) k → k < w10.heap.size := fun k hk => (h_q.ft hk).2
        clear lt_a
        have lt_a : ∀ k, (Ft p_a u10_a) k → k < w10.heap.size := fun k hk => (h_a.ft hk).2
        have q_x := v_x.cells
        have l_x := v_x.lt
        have q_t := v_t.cells
        have l_t := v_t.lt
        (try dsimp only)
        go_wp2_with fail
        clear q_x l_x q_t l_t
        refine (wdone_any h_a (by omega)).mono ?_
        rintro e w11 ⟨A2, c2, rfl, hA2, hb⟩
        replace v_x := v_x.below hb v_x.lt
        replace v_t := v_t.below hb v_t.lt
        replace h_q := h_q.below hb
        replace h_a := h_a.below hb
        replace bw := bw.trans (hb.mono bw.size)
        replace sz := bw.size
        clear hb
        clear lt_q
        have lt_q : ∀ k, (Ft p_q u_q) k → k < w11.heap.size := fun k hk => (h_q.ft hk).2
        clear lt_a
        have lt_a : ∀ k, (Ft p_a u10_a) k → k < w11.heap.size := fun k hk => (h_a.ft hk).2
        have q_x := v_x.cells
        have l_x := v_x.lt
        have q_t := v_t.cells
        have l_t := v_t.lt
        clear h_a lt_a sb_a D_a_x D_a_t D_a_q
        (try dsimp only)
        go_wp2_with fail
        clear q_x l_x q_t l_t
        refine (err_any h_q).mono ?_
        rintro e wq ⟨rfl, rfl⟩
        have q_x := v_x.cells
        have l_x := v_x.lt
        have q_t := v_t.cells
        have l_t := v_t.lt
        (try dsimp only)
        go_wp2_with fail
        clear q_x l_x q_t l_t
        refine (err_any h_q).mono ?_
        rintro e wq ⟨rfl, rfl⟩
        have q_x := v_x.cells
        have l_x := v_x.lt
        have q_t := v_t.cells
        have l_t := v_t.lt
        (try dsimp only)
        go_wp2_with fail
        clear q_x l_x q_t l_t
        have lq_x := v_x.lt
        have lq_t := v_t.lt
        refine (read_any w11 _ (Nat.le_refl _) A c _ b rfl ((HR.out.below bw).more bw.size) hb6).mono ?_
        rintro e w12 ⟨p_p, u_p, rfl, h_p, hb, hf⟩
        replace v_x := v_x.below hb v_x.lt
        replace v_t := v_t.below hb v_t.lt
        replace h_q := h_q.below hb
        have D_p_x : DJ (Ft p_p u_p) (· = w3.heap.size) := (DJ.fresh (N := w11.heap.size) (fun k hk => by subst hk; exact lq_x) hf).symm
        have D_p_t : DJ (Ft p_p u_p) (· = w7.heap.size) := (DJ.fresh (N := w11.heap.size) (fun k hk => by subst hk; exact lq_t) hf).symm
        have D_p_q : DJ (Ft p_p u_p) (Ft p_q u_q) := (DJ.fresh lt_q (N := w11.heap.size) hf).symm
        have sb_p : w.heap.size ≤ w11.heap.size := sz
        replace bw := bw.trans (hb.mono bw.size)
        replace sz := bw.size
        clear hb hf lq_x lq_t
        clear lt_q
        have lt_q : ∀ k, (Ft p_q u_q) k → k < w12.heap.size := fun k hk => (h_q.ft hk).2
        skip
        have lt_p : ∀ k, (Ft p_p u_p) k → k < w12.heap.size := fun k hk => (h_p.ft hk).2
        have q_x := v_x.cells
        have l_x := v_x.lt
        have q_t := v_t.cells
        have l_t := v_t.lt
        clear h_q lt_q sb_q D_q_x D_q_t D_p_q
        (try dsimp only)
        go_wp2_with fail
        clear q_x l_x q_t l_t
        have lq_x := v_x.lt
        have lq_t := v_t.lt
        refine (getBlock_any h_p).mono ?_
        rintro e w13 ⟨rfl, st⟩
        rw [HK.out] at st; obtain ⟨hh, tt⟩ := st; rw [HK.out]
        replace v_x := v_x.trn tt D_p_x
        replace v_t := v_t.trn tt D_p_t
        replace D_p_x : DJ (Ft p_p u_p) (· = w3.heap.size) := D_p_x.step tt (fun k hk => by subst hk; exact lq_x)
        replace D_p_t : DJ (Ft p_p u_p) (· = w7.heap.size) := D_p_t.step tt (fun k hk => by subst hk; exact lq_t)
        clear h_p
        have h_p := hh
        replace bw := bw.trans (tt.bel.mono sb_p)
        replace sz := bw.size
        clear hh tt lq_x lq_t
        clear lt_p
        have lt_p : ∀ k, (Ft p_p u_p) k → k < w13.heap.size := fun k hk => (h_p.ft hk).2
        have q_x := v_x.cells
        have l_x := v_x.lt
        have q_t := v_t.cells
        have l_t := v_t.lt
        have d_x_k := v_x.lt
        have d_t_k := v_t.lt
        (try dsimp only)
        go_wp2_with fail
        refine at_world (F := fun w' => Var w' (w3.heap.size) #[.slice X1 xs.length e1, .slice X2 ys.length e2] 76 ∧ Var w' (w7.heap.size) #[.int .i64 z0, .int .i64 z1, .int .i64 z2, .bool z3] 54 ∧ Var w' (w13.heap.size) #[.int .i64 0, .int .i64 0, .int .i64 0] 25 ∧ RdrAt w' w11.heap.size p_p u_p b s3 ∧ w13.heap.size ≤ w'.heap.size ∧ Below w.heap.size w w') ⟨(v_x).alloc _, (v_t).alloc _, Var.newE _ _ _ rfl, h_p.below (by go_grown), by go_size, by go_grown⟩ ?_
        clear q_x l_x v_x q_t l_t v_t h_p bw sz
        rintro w14 ⟨v_x, v_t, v_k, h_p, szn, bw⟩
        have sz := bw.size
        have D_p_k : DJ (Ft p_p u_p) (· = w13.heap.size) := DJ.fresh lt_p (N := w13.heap.size) (fun k hk => by subst hk; omega)
        clear lt_p
        have lt_p : ∀ k, (Ft p_p u_p) k → k < w14.heap.size := fun k hk => (h_p.ft hk).2
        clear szn
        have lq_x := v_x.lt
        have lq_t := v_t.lt
        have lq_k := v_k.lt
        refine (new_any w14 _ (Nat.le_refl _)).mono ?_
        rintro e w15 ⟨p_d, u_d, rfl, h_d, hb, hf⟩
        replace v_x := v_x.below hb v_x.lt
        replace v_t := v_t.below hb v_t.lt
        replace v_k := v_k.below hb v_k.lt
        replace h_p := h_p.below hb
        have D_d_x : DJ (Ft p_d u_d) (· = w3.heap.size) := (DJ.fresh (N := w14.heap.size) (fun k hk => by subst hk; exact lq_x) hf).symm
        have D_d_t : DJ (Ft p_d u_d) (· = w7.heap.size) := (DJ.fresh (N := w14.heap.size) (fun k hk => by subst hk; exact lq_t) hf).symm
        have D_d_k : DJ (Ft p_d u_d) (· = w13.heap.size) := (DJ.fresh (N := w14.heap.size) (fun k hk => by subst hk; exact lq_k) hf).symm
        have D_d_p : DJ (Ft p_d u_d) (Ft p_p u_p) := (DJ.fresh lt_p (N := w14.heap.size) hf).symm
        have sb_d : w.heap.size ≤ w14.heap.size := sz
        replace bw := bw.trans (hb.mono bw.size)
        replace sz := bw.size
        clear hb hf lq_x lq_t lq_k
        clear lt_p
        have lt_p : ∀ k, (Ft p_p u_p) k → k < w15.heap.size := fun k hk => (h_p.ft hk).2
        skip
        have lt_d : ∀ k, (Ft p_d u_d) k → k < w15.heap.size := fun k hk => (h_d.ft hk).2
        have q_x := v_x.cells
        have l_x := v_x.lt
        have q_t := v_t.cells
        have l_t := v_t.lt
        have q_k := v_k.cells
        have l_k := v_k.lt
        (try dsimp only)
        go_wp2_with fail
        clear q_x l_x q_t l_t q_k l_k
        have lq_x := v_x.lt
        have lq_t := v_t.lt
        have lq_k := v_k.lt
        refine (putBlock_any h_d ⟨0, 0, 0⟩ (by simp)).mono ?_
        rintro e w16 ⟨rfl, u16_d, hh, tt⟩
        replace v_x := v_x.trn tt D_d_x
        replace v_t := v_t.trn tt D_d_t
        replace v_k := v_k.trn tt D_d_k
        replace h_p := h_p.besideD tt D_d_p
        replace D_d_x : DJ (Ft p_d u16_d) (· = w3.heap.size) := D_d_x.step tt (fun k hk => by subst hk; exact lq_x)
        replace D_d_t : DJ (Ft p_d u16_d) (· = w7.heap.size) := D_d_t.step tt (fun k hk => by subst hk; exact lq_t)
        replace D_d_k : DJ (Ft p_d u16_d) (· = w13.heap.size) := D_d_k.step tt (fun k hk => by subst hk; exact lq_k)
        replace D_d_p : DJ (Ft p_d u16_d) (Ft p_p u_p) := D_d_p.step tt lt_p
        clear h_d
        have h_d := hh
        replace bw := bw.trans (tt.bel.mono sb_d)
        replace sz := bw.size
        clear hh tt lq_x lq_t lq_k
        clear lt_p
        have lt_p : ∀ k, (Ft p_p u_p) k → k < w16.heap.size := fun k hk => (h_p.ft hk).2
        clear lt_d
        have lt_d : ∀ k, (Ft p_d u16_d) k → k < w16.heap.size := fun k hk => (h_d.ft hk).2
        have q_x := v_x.cells
        have l_x := v_x.lt
        have q_t := v_t.cells
        have l_t := v_t.lt
        have q_k := v_k.cells
        have l_k := v_k.lt
        (try dsimp only)
        go_wp2_with fail
        clear q_x l_x q_t l_t q_k l_k
        refine (wdone_any h_d (by omega)).mono ?_
        rintro e w17 ⟨A3, c3, rfl, hA3, hb⟩
        replace v_x := v_x.below hb v_x.lt
        replace v_t := v_t.below hb v_t.lt
        replace v_k := v_k.below hb v_k.lt
        replace h_p := h_p.below hb
        replace h_d := h_d.below hb
        replace bw := bw.trans (hb.mono bw.size)
        replace sz := bw.size
        clear hb
        clear lt_p
        have lt_p : ∀ k, (Ft p_p u_p) k → k < w17.heap.size := fun k hk => (h_p.ft hk).2
        clear lt_d
        have lt_d : ∀ k, (Ft p_d u16_d) k → k < w17.heap.size := fun k hk => (h_d.ft hk).2
        have q_x := v_x.cells
        have l_x := v_x.lt
        have q_t := v_t.cells
        have l_t := v_t.lt
        have q_k := v_k.cells
        have l_k := v_k.lt
        clear h_d lt_d sb_d D_d_x D_d_t D_d_k D_d_p
        (try dsimp only)
        go_wp2_with fail
        clear q_x l_x q_t l_t q_k l_k
        refine (err_any h_p).mono ?_
        rintro e wq ⟨rfl, rfl⟩
        have q_x := v_x.cells
        have l_x := v_x.lt
        have q_t := v_t.cells
        have l_t := v_t.lt
        have q_k := v_k.cells
        have l_k := v_k.lt
        (try dsimp only)
        go_wp2_with fail
        clear q_x l_x q_t l_t q_k l_k
        refine (alive_any _).mono ?_
        rintro e w18 ⟨rfl, hb⟩
        replace v_x := v_x.below hb v_x.lt
        replace v_t := v_t.below hb v_t.lt
        replace v_k := v_k.below hb v_k.lt
        replace h_p := h_p.below hb
        replace bw := bw.trans (hb.mono bw.size)
        replace sz := bw.size
        clear hb
        clear lt_p
        have lt_p : ∀ k, (Ft p_p u_p) k → k < w18.heap.size := fun k hk => (h_p.ft hk).2
        have q_x := v_x.cells
        have l_x := v_x.lt
        have q_t := v_t.cells
        have l_t := v_t.lt
        have q_k := v_k.cells
        have l_k := v_k.lt
        go_wp2
        go_ret
        exact ⟨rfl, bw⟩
    · have i1 : (s2.err == 0) = false := by simpa using h2
      have i2 : (s2.err != 0) = true := by simpa using h2
      have hz := ht2 h2
      injection hz with hz0 hz
      injection hz with hz1 hz2 hz3
      subst hz0 hz1 hz2 hz3
      have hpt : (Oct.putTable ⟨[], 0⟩ 0 ⟨0, 0, false⟩).b.length ≤ 1000 := by have := Oct.putTable_len ⟨[], 0⟩ 0 ⟨0, 0, false⟩; simp at this; omega
      clear h2 ht1 ht2
      by_cases h3 : s3.err = 0
      · have j1 : (s3.err == 0) = true := by simpa using h3
        have j2 : (s3.err != 0) = false := by simpa using h3
        clear h3 hk3
        go_enter Try.func8, Try.ntmps8
        (try dsimp only)
        go_wp2_with fail
        refine at_world (F := fun w' => Below w.heap.size w w') (by go_grown) ?_
        rintro w1 bw
        have sz := bw.size
        refine (read_any w1 _ (Nat.le_refl _) A c _ b rfl ((HR.out.below bw).more bw.size) hb6).mono ?_
        rintro e w2 ⟨p_r, u_r, rfl, h_r, hb, hf⟩
        have sb_r : w.heap.size ≤ w1.heap.size := sz
        replace bw := bw.trans (hb.mono bw.size)
        replace sz := bw.size
        clear hb hf
        skip
        have lt_r : ∀ k, (Ft p_r u_r) k → k < w2.heap.size := fun k hk => (h_r.ft hk).2
        (try dsimp only)
        go_wp2_with fail
        refine (getFunc_any h_r).mono ?_
        rintro e w3 ⟨X1, e1, X2, e2, rfl, L1, L2, st⟩
        rw [HY.out] at st L1 L2; obtain ⟨hh, tt⟩ := st; rw [HY.out]; have R_x1 := L1.rd; have R_x2 := L2.rd; clear L1 L2; dsimp only at R_x1 R_x2
        clear h_r
        have h_r := hh
        replace bw := bw.trans (tt.bel.mono sb_r)
        replace sz := bw.size
        clear hh tt
        clear lt_r
        have lt_r : ∀ k, (Ft p_r u_r) k → k < w3.heap.size := fun k hk => (h_r.ft hk).2
        (try dsimp only)
        go_wp2_with fail
        refine at_world (F := fun w' => Var w' (w3.heap.size) #[.slice X1 xs.length e1, .slice X2 ys.length e2] 76 ∧ RdrAt w' w1.heap.size p_r u_r b s1 ∧ RdI w' w'.heap.size X1 xs ∧ RdI w' w'.heap.size X2 ys ∧ w3.heap.size ≤ w'.heap.size ∧ Below w.heap.size w w') ⟨Var.newE _ _ _ rfl, h_r.below (by go_grown), (R_x1.below (by go_grown)).more (by go_size), (R_x2.below (by go_grown)).more (by go_size), by go_size, by go_grown⟩ ?_
        clear  h_r bw sz
        rintro w4 ⟨v_x, h_r, R_x1, R_x2, szn, bw⟩
        have sz := bw.size
        have D_r_x : DJ (Ft p_r u_r) (· = w3.heap.size) := DJ.fresh lt_r (N := w3.heap.size) (fun k hk => by subst hk; omega)
        clear lt_r
        have lt_r : ∀ k, (Ft p_r u_r) k → k < w4.heap.size := fun k hk => (h_r.ft hk).2
        clear szn
        refine (err_any h_r).mono ?_
        rintro e wq ⟨rfl, rfl⟩
        have q_x := v_x.cells
        have l_x := v_x.lt
        (try dsimp only)
        go_wp2_with fail
        clear q_x l_x
        refine (err_any h_r).mono ?_
        rintro e wq ⟨rfl, rfl⟩
        have q_x := v_x.cells
        have l_x := v_x.lt
        (try dsimp only)
        go_wp2_with fail
        clear q_x l_x
        refine (refRight_any X1 X2 e1 e2 xs ys _ R_x1 R_x2 (by omega) (by omega)).mono ?_
        rintro e w5 ⟨rfl, hb⟩
        replace v_x := v_x.below hb v_x.lt
        replace h_r := h_r.below hb
        replace R_x1 := (R_x1.below hb).more hb.size
        replace R_x2 := (R_x2.below hb).more hb.size
        rw [HF.out]
        replace bw := bw.trans (hb.mono bw.size)
        replace sz := bw.size
        clear hb
        clear lt_r
        have lt_r : ∀ k, (Ft p_r u_r) k → k < w5.heap.size := fun k hk => (h_r.ft hk).2
        have q_x := v_x.cells
        have l_x := v_x.lt
        clear R_x1 R_x2
        (try dsimp only)
        go_wp2_with fail
        clear q_x l_x
        have lq_x := v_x.lt
        refine (read_any w5 _ (Nat.le_refl _) A c _ b rfl ((HR.out.below bw).more bw.size) hb6).mono ?_
        rintro e w6 ⟨p_q, u_q, rfl, h_q, hb, hf⟩
        replace v_x := v_x.below hb v_x.lt
        replace h_r := h_r.below hb
        have D_q_x : DJ (Ft p_q u_q) (· = w3.heap.size) := (DJ.fresh (N := w5.heap.size) (fun k hk => by subst hk; exact lq_x) hf).symm
        have D_q_r : DJ (Ft p_q u_q) (Ft p_r u_r) := (DJ.fresh lt_r (N := w5.heap.size) hf).symm
        have sb_q : w.heap.size ≤ w5.heap.size := sz
        replace bw := bw.trans (hb.mono bw.size)
        replace sz := bw.size
        clear hb hf lq_x
        clear lt_r
        have lt_r : ∀ k, (Ft p_r u_r) k → k < w6.heap.size := fun k hk => (h_r.ft hk).2
        skip
        have lt_q : ∀ k, (Ft p_q u_q) k → k < w6.heap.size := fun k hk => (h_q.ft hk).2
        have q_x := v_x.cells
        have l_x := v_x.lt
        clear h_r lt_r sb_r D_r_x D_q_r
        (try dsimp only)
        go_wp2_with fail
        clear q_x l_x
        have lq_x := v_x.lt
        refine (getTable_any h_q).mono ?_
        rintro e w7 ⟨rfl, st⟩
        rw [HZ.out] at st; obtain ⟨hh, tt⟩ := st; rw [HZ.out]
        replace v_x := v_x.trn tt D_q_x
        replace D_q_x : DJ (Ft p_q u_q) (· = w3.heap.size) := D_q_x.step tt (fun k hk => by subst hk; exact lq_x)
        clear h_q
        have h_q := hh
        replace bw := bw.trans (tt.bel.mono sb_q)
        replace sz := bw.size
        clear hh tt lq_x
        clear lt_q
        have lt_q : ∀ k, (Ft p_q u_q) k → k < w7.heap.size := fun k hk => (h_q.ft hk).2
        have q_x := v_x.cells
        have l_x := v_x.lt
        have d_x_t := v_x.lt
        (try dsimp only)
        go_wp2_with fail
        refine at_world (F := fun w' => Var w' (w3.heap.size) #[.slice X1 xs.length e1, .slice X2 ys.length e2] 76 ∧ Var w' (w7.heap.size) #[.int .i64 0, .int .i64 0, .int .i64 0, .bool false] 54 ∧ RdrAt w' w5.heap.size p_q u_q b s2 ∧ w7.heap.size ≤ w'.heap.size ∧ Below w.heap.size w w') ⟨(v_x).alloc _, Var.newE _ _ _ rfl, h_q.below (by go_grown), by go_size, by go_grown⟩ ?_
        clear q_x l_x v_x h_q bw sz
        rintro w8 ⟨v_x, v_t, h_q, szn, bw⟩
        have sz := bw.size
        have D_q_t : DJ (Ft p_q u_q) (· = w7.heap.size) := DJ.fresh lt_q (N := w7.heap.size) (fun k hk => by subst hk; omega)
        clear lt_q
        have lt_q : ∀ k, (Ft p_q u_q) k → k < w8.heap.size := fun k hk => (h_q.ft hk).2
        clear szn
        have lq_x := v_x.lt
        have lq_t := v_t.lt
        refine (new_any w8 _ (Nat.le_refl _)).mono ?_
        rintro e w9 ⟨p_a, u_a, rfl, h_a, hb, hf⟩
        replace v_x := v_x.below hb v_x.lt
        replace v_t := v_t.below hb v_t.lt
        replace h_q := h_q.below hb
        have D_a_x : DJ (Ft p_a u_a) (· = w3.heap.size) := (DJ.fresh (N := w8.heap.size) (fun k hk => by subst hk; exact lq_x) hf).symm
        have D_a_t : DJ (Ft p_a u_a) (· = w7.heap.size) := (DJ.fresh (N := w8.heap.size) (fun k hk => by subst hk; exact lq_t) hf).symm
        have D_a_q : DJ (Ft p_a u_a) (Ft p_q u_q) := (DJ.fresh lt_q (N := w8.heap.size) hf).symm
        have sb_a : w.heap.size ≤ w8.heap.size := sz
        replace bw := bw.trans (hb.mono bw.size)
        replace sz := bw.size
        clear hb hf lq_x lq_t
        clear lt_q
        have lt_q : ∀ k, (Ft p_q u_q) k → k < w9.heap.size := fun k hk => (h_q.ft hk).2
        skip
        have lt_a : ∀ k, (Ft p_a u_a) k → k < w9.heap.size := fun k hk => (h_a.ft hk).2
        have q_x := v_x.cells
        have l_x := v_x.lt
        have q_t := v_t.cells
        have l_t := v_t.lt
        (try dsimp only)
        go_wp2_with fail
        clear q_x l_x q_t l_t
        have lq_x := v_x.lt
        have lq_t := v_t.lt
        refine (putTable_any h_a 0 ⟨0, 0, false⟩ (by simp)).mono ?_
        rintro e w10 ⟨rfl, u10_a, hh, tt⟩
        replace v_x := v_x.trn tt D_a_x
        replace v_t := v_t.trn tt D_a_t
        replace h_q := h_q.besideD tt D_a_q
        replace D_a_x : DJ (Ft p_a u10_a) (· = w3.heap.size) := D_a_x.step tt (fun k hk => by subst hk; exact lq_x)
        replace D_a_t : DJ (Ft p_a u10_a) (· = w7.heap.size) := D_a_t.step tt (fun k hk => by subst hk; exact lq_t)
        replace D_a_q : DJ (Ft p_a u10_a) (Ft p_q u_q) := D_a_q.step tt lt_q
        clear h_a
        have h_a := hh
        replace bw := bw.trans (tt.bel.mono sb_a)
        replace sz := bw.size
        clear hh tt lq_x lq_t
        clear lt_q
        have lt_q : ∀ k, (Ft p_q u_q) k → k < w10.heap.size := fun k hk => (h_q.ft hk).2
        clear lt_a
        have lt_a : ∀ k, (Ft p_a u10_a) k → k < w10.heap.size := fun k hk => (h_a.ft hk).2
        have q_x := v_x.cells
        have l_x := v_x.lt
        have q_t := v_t.cells
        have l_t := v_t.lt
        (try dsimp only)
        go_wp2_with fail
        clear q_x l_x q_t l_t
        refine (wdone_any h_a (by omega)).mono ?_
        rintro e w11 ⟨A2, c2, rfl, hA2, hb⟩
        replace v_x := v_x.below hb v_x.lt
        replace v_t := v_t.below hb v_t.lt
        replace h_q := h_q.below hb
        replace h_a := h_a.below hb
        replace bw := bw.trans (hb.mono bw.size)
        replace sz := bw.size
        clear hb
        clear lt_q
        have lt_q : ∀ k, (Ft p_q u_q) k → k < w11.heap.size := fun k hk => (h_q.ft hk).2
        clear lt_a
        have lt_a : ∀ k, (Ft p_a u10_a) k → k < w11.heap.size := fun k hk => (h_a.ft hk).2
        have q_x := v_x.cells
        have l_x := v_x.lt
        have q_t := v_t.cells
        have l_t := v_t.lt
        clear h_a lt_a sb_a D_a_x D_a_t D_a_q
        (try dsimp only)
        go_wp2_with fail
        clear q_x l_x q_t l_t
        refine (err_any h_q).mono ?_
        rintro e wq ⟨rfl, rfl⟩
        have q_x := v_x.cells
        have l_x := v_x.lt
        have q_t := v_t.cells
        have l_t := v_t.lt
        (try dsimp only)
        go_wp2_with fail
        clear q_x l_x q_t l_t
        refine (err_any h_q).mono ?_
        rintro e wq ⟨rfl, rfl⟩
        have q_x := v_x.cells
        have l_x := v_x.lt
        have q_t := v_t.cells
        have l_t := v_t.lt
        (try dsimp only)
        go_wp2_with fail
        clear q_x l_x q_t l_t
        have lq_x := v_x.lt
        have lq_t := v_t.lt
        refine (read_any w11 _ (Nat.le_refl _) A c _ b rfl ((HR.out.below bw).more bw.size) hb6).mono ?_
        rintro e w12 ⟨p_p, u_p, rfl, h_p, hb, hf⟩
        replace v_x := v_x.below hb v_x.lt
        replace v_t := v_t.below hb v_t.lt
        replace h_q := h_q.below hb
        have D_p_x : DJ (Ft p_p u_p) (· = w3.heap.size) := (DJ.fresh (N := w11.heap.size) (fun k hk => by subst hk; exact lq_x) hf).symm
        have D_p_t : DJ (Ft p_p u_p) (· = w7.heap.size) := (DJ.fresh (N := w11.heap.size) (fun k hk => by subst hk; exact lq_t) hf).symm
        have D_p_q : DJ (Ft p_p u_p) (Ft p_q u_q) := (DJ.fresh lt_q (N := w11.heap.size) hf).symm
        have sb_p : w.heap.size ≤ w11.heap.size := sz
        replace bw := bw.trans (hb.mono bw.size)
        replace sz := bw.size
        clear hb hf lq_x lq_t
        clear lt_q
        have lt_q : ∀ k, (Ft p_q u_q) k → k < w12.heap.size := fun k hk => (h_q.ft hk).2
        skip
        have lt_p : ∀ k, (Ft p_p u_p) k → k < w12.heap.size := fun k hk => (h_p.ft hk).2
        have q_x := v_x.cells
        have l_x := v_x.lt
        have q_t := v_t.cells
        have l_t := v_t.lt
        clear h_q lt_q sb_q D_q_x D_q_t D_p_q
        (try dsimp only)
        go_wp2_with fail
        clear q_x l_x q_t l_t
        have lq_x := v_x.lt
        have lq_t := v_t.lt
        refine (getBlock_any h_p).mono ?_
        rintro e w13 ⟨rfl, st⟩
        rw [HK.out] at st; obtain ⟨hh, tt⟩ := st; rw [HK.out]
        replace v_x := v_x.trn tt D_p_x
        replace v_t := v_t.trn tt D_p_t
        replace D_p_x : DJ (Ft p_p u_p) (· = w3.heap.size) := D_p_x.step tt (fun k hk => by subst hk; exact lq_x)
        replace D_p_t : DJ (Ft p_p u_p) (· = w7.heap.size) := D_p_t.step tt (fun k hk => by subst hk; exact lq_t)
        clear h_p
        have h_p := hh
        replace bw := bw.trans (tt.bel.mono sb_p)
        replace sz := bw.size
        clear hh tt lq_x lq_t
        clear lt_p
        have lt_p : ∀ k, (Ft p_p u_p) k → k < w13.heap.size := fun k hk => (h_p.ft hk).2
        have q_x := v_x.cells
        have l_x := v_x.lt
        have q_t := v_t.cells
        have l_t := v_t.lt
        have d_x_k := v_x.lt
        have d_t_k := v_t.lt
        (try dsimp only)
        go_wp2_with fail
        refine at_world (F := fun w' => Var w' (w3.heap.size) #[.slice X1 xs.length e1, .slice X2 ys.length e2] 76 ∧ Var w' (w7.heap.size) #[.int .i64 0, .int .i64 0, .int .i64 0, .bool false] 54 ∧ Var w' (w13.heap.size) #[.int .i64 k1, .int .i64 k2, .int .i64 k3] 25 ∧ RdrAt w' w11.heap.size p_p u_p b s3 ∧ w13.heap.size ≤ w'.heap.size ∧ Below w.heap.size w w') ⟨(v_x).alloc _, (v_t).alloc _, Var.newE _ _ _ rfl, h_p.below (by go_grown), by go_size, by go_grown⟩ ?_
        clear q_x l_x v_x q_t l_t v_t h_p bw sz
        rintro w14 ⟨v_x, v_t, v_k, h_p, szn, bw⟩
        have sz := bw.size
        have D_p_k : DJ (Ft p_p u_p) (· = w13.heap.size) := DJ.fresh lt_p (N := w13.heap.size) (fun k hk => by subst hk; omega)
        clear lt_p
        have lt_p : ∀ k, (Ft p_p u_p) k → k < w14.heap.size := fun k hk => (h_p.ft hk).2
        clear szn
        have lq_x := v_x.lt
        have lq_t := v_t.lt
        have lq_k := v_k.lt
        refine (new_any w14 _ (Nat.le_refl _)).mono ?_
        rintro e w15 ⟨p_d, u_d, rfl, h_d, hb, hf⟩
        replace v_x := v_x.below hb v_x.lt
        replace v_t := v_t.below hb v_t.lt
        replace v_k := v_k.below hb v_k.lt
        replace h_p := h_p.below hb
        have D_d_x : DJ (Ft p_d u_d) (· = w3.heap.size) := (DJ.fresh (N := w14.heap.size) (fun k hk => by subst hk; exact lq_x) hf).symm
        have D_d_t : DJ (Ft p_d u_d) (· = w7.heap.size) := (DJ.fresh (N := w14.heap.size) (fun k hk => by subst hk; exact lq_t) hf).symm
        have D_d_k : DJ (Ft p_d u_d) (· = w13.heap.size) := (DJ.fresh (N := w14.heap.size) (fun k hk => by subst hk; exact lq_k) hf).symm
        have D_d_p : DJ (Ft p_d u_d) (Ft p_p u_p) := (DJ.fresh lt_p (N := w14.heap.size) hf).symm
        have sb_d : w.heap.size ≤ w14.heap.size := sz
        replace bw := bw.trans (hb.mono bw.size)
        replace sz := bw.size
        clear hb hf lq_x lq_t lq_k
        clear lt_p
        have lt_p : ∀ k, (Ft p_p u_p) k → k < w15.heap.size := fun k hk => (h_p.ft hk).2
        skip
        have lt_d : ∀ k, (Ft p_d u_d) k → k < w15.heap.size := fun k hk => (h_d.ft hk).2
        have q_x := v_x.cells
        have l_x := v_x.lt
        have q_t := v_t.cells
        have l_t := v_t.lt
        have q_k := v_k.cells
        have l_k := v_k.lt
        (try dsimp only)
        go_wp2_with fail
        clear q_x l_x q_t l_t q_k l_k
        have lq_x := v_x.lt
        have lq_t := v_t.lt
        have lq_k := v_k.lt
        refine (putBlock_any h_d ⟨k1, k2, k3⟩ (by simp)).mono ?_
        rintro e w16 ⟨rfl, u16_d, hh, tt⟩
        replace v_x := v_x.trn tt D_d_x
        replace v_t := v_t.trn tt D_d_t
        replace v_k := v_k.trn tt D_d_k
        replace h_p := h_p.besideD tt D_d_p
        replace D_d_x : DJ (Ft p_d u16_d) (· = w3.heap.size) := D_d_x.step tt (fun k hk => by subst hk; exact lq_x)
        replace D_d_t : DJ (Ft p_d u16_d) (· = w7.heap.size) := D_d_t.step tt (fun k hk => by subst hk; exact lq_t)
        replace D_d_k : DJ (Ft p_d u16_d) (· = w13.heap.size) := D_d_k.step tt (fun k hk => by subst hk; exact lq_k)
        replace D_d_p : DJ (Ft p_d u16_d) (Ft p_p u_p) := D_d_p.step tt lt_p
        clear h_d
        have h_d := hh
        replace bw := bw.trans (tt.bel.mono sb_d)
        replace sz := bw.size
        clear hh tt lq_x lq_t lq_k
        clear lt_p
        have lt_p : ∀ k, (Ft p_p u_p) k → k < w16.heap.size := fun k hk => (h_p.ft hk).2
        clear lt_d
        have lt_d : ∀ k, (Ft p_d u16_d) k → k < w16.heap.size := fun k hk => (h_d.ft hk).2
        have q_x := v_x.cells
        have l_x := v_x.lt
        have q_t := v_t.cells
        have l_t := v_t.lt
        have q_k := v_k.cells
        have l_k := v_k.lt
        (try dsimp only)
        go_wp2_with fail
        clear q_x l_x q_t l_t q_k l_k
        refine (wdone_any h_d (by omega)).mono ?_
        rintro e w17 ⟨A3, c3, rfl, hA3, hb⟩
        replace v_x := v_x.below hb v_x.lt
        replace v_t := v_t.below hb v_t.lt
        replace v_k := v_k.below hb v_k.lt
        replace h_p := h_p.below hb
        replace h_d := h_d.below hb
        replace bw := bw.trans (hb.mono bw.size)
        replace sz := bw.size
        clear hb
        clear lt_p
        have lt_p : ∀ k, (Ft p_p u_p) k → k < w17.heap.size := fun k hk => (h_p.ft hk).2
        clear lt_d
        have lt_d : ∀ k, (Ft p_d u16_d) k → k < w17.heap.size := fun k hk => (h_d.ft hk).2
        have q_x := v_x.cells
        have l_x := v_x.lt
        have q_t := v_t.cells
        have l_t := v_t.lt
        have q_k := v_k.cells
        have l_k := v_k.lt
        clear h_d lt_d sb_d D_d_x D_d_t D_d_k D_d_p
        (try dsimp only)
        go_wp2_with fail
        clear q_x l_x q_t l_t q_k l_k
        refine (err_any h_p).mono ?_
        rintro e wq ⟨rfl, rfl⟩
        have q_x := v_x.cells
        have l_x := v_x.lt
        have q_t := v_t.cells
        have l_t := v_t.lt
        have q_k := v_k.cells
        have l_k := v_k.lt
        (try dsimp only)
        go_wp2_with fail
        clear q_x l_x q_t l_t q_k l_k
        refine (alive_any _).mono ?_
        rintro e w18 ⟨rfl, hb⟩
        replace v_x := v_x.below hb v_x.lt
        replace v_t := v_t.below hb v_t.lt
        replace v_k := v_k.below hb v_k.lt
        replace h_p := h_p.below hb
        replace bw := bw.trans (hb.mono bw.size)
        replace sz := bw.size
        clear hb
        clear lt_p
        have lt_p : ∀ k, (Ft p_p u_p) k → k < w18.heap.size := fun k hk => (h_p.ft hk).2
        have q_x := v_x.cells
        have l_x := v_x.lt
        have q_t := v_t.cells
        have l_t := v_t.lt
        have q_k := v_k.cells
        have l_k := v_k.lt
        go_wp2
        go_ret
        exact ⟨rfl, bw⟩
      · have j1 : (s3.err == 0) = false := by simpa using h3
        have j2 : (s3.err != 0) = true := by simpa using h3
        have hz : (⟨k1, k2, k3⟩ : Oct.Blk) = ⟨0, 0, 0⟩ := hk3.resolve_left h3
        injection hz with hz1 hz2 hz3
        subst hz1 hz2 hz3
        clear h3 hk3
        go_enter Try.func8, Try.ntmps8
        (try dsimp only)
        go_wp2_with fail
        refine at_world (F := fun w' => Below w.heap.size w w') (by go_grown) ?_
        rintro w1 bw
        have sz := bw.size
        refine (read_any w1 _ (Nat.le_refl _) A c _ b rfl ((HR.out.below bw).more bw.size) hb6).mono ?_
        rintro e w2 ⟨p_r, u_r, rfl, h_r, hb, hf⟩
        have sb_r : w.heap.size ≤ w1.heap.size := sz
        replace bw := bw.trans (hb.mono bw.size)
        replace sz := bw.size
        clear hb hf
        skip
        have lt_r : ∀ k, (Ft p_r u_r) k → k < w2.heap.size := fun k hk => (h_r.ft hk).2
        (try dsimp only)
        go_wp2_with fail
        refine (getFunc_any h_r).mono ?_
        rintro e w3 ⟨X1, e1, X2, e2, rfl, L1, L2, st⟩
        rw [HY.out] at st L1 L2; obtain ⟨hh, tt⟩ := st; rw [HY.out]; have R_x1 := L1.rd; have R_x2 := L2.rd; clear L1 L2; dsimp only at R_x1 R_x2
        clear h_r
        have h_r := hh
        replace bw := bw.trans (tt.bel.mono sb_r)
        replace sz := bw.size
        clear hh tt
        clear lt_r
        have lt_r : ∀ k, (Ft p_r u_r) k → k < w3.heap.size := fun k hk => (h_r.ft hk).2
        (try dsimp only)
        go_wp2_with fail
        refine at_world (F := fun w' => Var w' (w3.heap.size) #[.slice X1 xs.length e1, .slice X2 ys.length e2] 76 ∧ RdrAt w' w1.heap.size p_r u_r b s1 ∧ RdI w' w'.heap.size X1 xs ∧ RdI w' w'.heap.size X2 ys ∧ w3.heap.size ≤ w'.heap.size ∧ Below w.heap.size w w') ⟨Var.newE _ _ _ rfl, h_r.below (by go_grown), (R_x1.below (by go_grown)).more (by go_size), (R_x2.below (by go_grown)).more (by go_size), by go_size, by go_grown⟩ ?_
        clear  h_r bw sz
        rintro w4 ⟨v_x, h_r, R_x1, R_x2, szn, bw⟩
        have sz := bw.size
        have D_r_x : DJ (Ft p_r u_r) (· = w3.heap.size) := DJ.fresh lt_r (N := w3.heap.size) (fun k hk => by subst hk; omega)
        clear lt_r
        have lt_r : ∀ k, (Ft p_r u_r) k → k < w4.heap.size := fun k hk => (h_r.ft hk).2
        clear szn
        refine (err_any h_r).mono ?_
        rintro e wq ⟨rfl, rfl⟩
        have q_x := v_x.cells
        have l_x := v_x.lt
        (try dsimp only)
        go_wp2_with fail
        clear q_x l_x
        refine (err_any h_r).mono ?_
        rintro e wq ⟨rfl, rfl⟩
        have q_x := v_x.cells
        have l_x := v_x.lt
        (try dsimp only)
        go_wp2_with fail
        clear q_x l_x
        refine (refRight_any X1 X2 e1 e2 xs ys _ R_x1 R_x2 (by omega) (by omega)).mono ?_
        rintro e w5 ⟨rfl, hb⟩
        replace v_x := v_x.below hb v_x.lt
        replace h_r := h_r.below hb
        replace R_x1 := (R_x1.below hb).more hb.size
        replace R_x2 := (R_x2.below hb).more hb.size
        rw [HF.out]
        replace bw := bw.trans (hb.mono bw.size)
        replace sz := bw.size
        clear hb
        clear lt_r
        have lt_r : ∀ k, (Ft p_r u_r) k → k < w5.heap.size := fun k hk => (h_r.ft hk).2
        have q_x := v_x.cells
        have l_x := v_x.lt
        clear R_x1 R_x2
        (try dsimp only)
        go_wp2_with fail
        clear q_x l_x
        have lq_x := v_x.lt
        refine (read_any w5 _ (Nat.le_refl _) A c _ b rfl ((HR.out.below bw).more bw.size) hb6).mono ?_
        rintro e w6 ⟨p_q, u_q, rfl, h_q, hb, hf⟩
        replace v_x := v_x.below hb v_x.lt
        replace h_r := h_r.below hb
        have D_q_x : DJ (Ft p_q u_q) (· = w3.heap.size) := (DJ.fresh (N := w5.heap.size) (fun k hk => by subst hk; exact lq_x) hf).symm
        have D_q_r : DJ (Ft p_q u_q) (Ft p_r u_r) := (DJ.fresh lt_r (N := w5.heap.size) hf).symm
        have sb_q : w.heap.size ≤ w5.heap.size := sz
        replace bw := bw.trans (hb.mono bw.size)
        replace sz := bw.size
        clear hb hf lq_x
        clear lt_r
        have lt_r : ∀ k, (Ft p_r u_r) k → k < w6.heap.size := fun k hk => (h_r.ft hk).2
        skip
        have lt_q : ∀ k, (Ft p_q u_q) k → k < w6.heap.size := fun k hk => (h_q.ft hk).2
        have q_x := v_x.cells
        have l_x := v_x.lt
        clear h_r lt_r sb_r D_r_x D_q_r
        (try dsimp only)
        go_wp2_with fail
        clear q_x l_x
        have lq_x := v_x.lt
        refine (getTable_any h_q).mono ?_
        rintro e w7 ⟨rfl, st⟩
        rw [HZ.out] at st; obtain ⟨hh, tt⟩ := st; rw [HZ.out]
        replace v_x := v_x.trn tt D_q_x
        replace D_q_x : DJ (Ft p_q u_q) (· = w3.heap.size) := D_q_x.step tt (fun k hk => by subst hk; exact lq_x)
        clear h_q
        have h_q := hh
        replace bw := bw.trans (tt.bel.mono sb_q)
        replace sz := bw.size
        clear hh tt lq_x
        clear lt_q
        have lt_q : ∀ k, (Ft p_q u_q) k → k < w7.heap.size := fun k hk => (h_q.ft hk).2
        have q_x := v_x.cells
        have l_x := v_x.lt
        have d_x_t := v_x.lt
        (try dsimp only)
        go_wp2_with fail
        refine at_world (F := fun w' => Var w' (w3.heap.size) #[.slice X1 xs.length e1, .slice X2 ys.length e2] 76 ∧ Var w' (w7.heap.size) #[.int .i64 0, .int .i64 0, .int .i64 0, .bool false] 54 ∧ RdrAt w' w5.heap.size p_q u_q b s2 ∧ w7.heap.size ≤ w'.heap.size ∧ Below w.heap.size w w') ⟨(v_x).alloc _, Var.newE _ _ _ rfl, h_q.below (by go_grown), by go_size, by go_grown⟩ ?_
        clear q_x l_x v_x h_q bw sz
        rintro w8 ⟨v_x, v_t, h_q, szn, bw⟩
        have sz := bw.size
        have D_q_t : DJ (Ft p_q u_q) (· = w7.heap.size) := DJ.fresh lt_q (N := w7.heap.size) (fun k hk => by subst hk; omega)
        clear lt_q
        have lt_q : ∀ k, (Ft p_q u_q) k → k < w8.heap.size := fun k hk => (h_q.ft hk).2
        clear szn
        have lq_x := v_x.lt
        have lq_t := v_t.lt
        refine (new_any w8 _ (Nat.le_refl _)).mono ?_
        rintro e w9 ⟨p_a, u_a, rfl, h_a, hb, hf⟩
        replace v_x := v_x.below hb v_x.lt
        replace v_t := v_t.below hb v_t.lt
        replace h_q := h_q.below hb
        have D_a_x : DJ (Ft p_a u_a) (· = w3.heap.size) := (DJ.fresh (N := w8.heap.size) (fun k hk => by subst hk; exact lq_x) hf).symm
        have D_a_t : DJ (Ft p_a u_a) (· = w7.heap.size) := (DJ.fresh (N := w8.heap.size) (fun k hk => by subst hk; exact lq_t) hf).symm
        have D_a_q : DJ (Ft p_a u_a) (Ft p_q u_q) := (DJ.fresh lt_q (N := w8.heap.size) hf).symm
        have sb_a : w.heap.size ≤ w8.heap.size := sz
        replace bw := bw.trans (hb.mono bw.size)
        replace sz := bw.size
        clear hb hf lq_x lq_t
        clear lt_q
        have lt_q : ∀ k, (Ft p_q u_q) k → k < w9.heap.size := fun k hk => (h_q.ft hk).2
        skip
        have lt_a : ∀ k, (Ft p_a u_a) k → k < w9.heap.size := fun k hk => (h_a.ft hk).2
        have q_x := v_x.cells
        have l_x := v_x.lt
        have q_t := v_t.cells
        have l_t := v_t.lt
        (try dsimp only)
        go_wp2_with fail
        clear q_x l_x q_t l_t
        have lq_x := v_x.lt
        have lq_t := v_t.lt
        refine (putTable_any h_a 0 ⟨0, 0, false⟩ (by simp)).mono ?_
        rintro e w10 ⟨rfl, u10_a, hh, tt⟩
        replace v_x := v_x.trn tt D_a_x
        replace v_t := v_t.trn tt D_a_t
        replace h_q := h_q.besideD tt D_a_q
        replace D_a_x : DJ (Ft p_a u10_a) (· = w3.heap.size) := D_a_x.step tt (fun k hk => by subst hk; exact lq_x)
        replace D_a_t : DJ (Ft p_a u10_a) (· = w7.heap.size) := D_a_t.step tt (fun k hk => by subst hk; exact lq_t)
        replace D_a_q : DJ (Ft p_a u10_a) (Ft p_q u_q) := D_a_q.step tt lt_q
        clear h_a
        have h_a := hh
        replace bw := bw.trans (tt.bel.mono sb_a)
        replace sz := bw.size
        clear hh tt lq_x lq_t
        clear lt_q
        have lt_q : ∀ k, (Ft p_q u_q) k → k < w10.heap.size := fun k hk => (h_q.ft hk).2
        clear lt_a
        have lt_a : ∀ k, (Ft p_a u10_a) k → k < w10.heap.size := fun k hk => (h_a.ft hk).2
        have q_x := v_x.cells
        have l_x := v_x.lt
        have q_t := v_t.cells
        have l_t := v_t.lt
        (try dsimp only)
        go_wp2_with fail
        clear q_x l_x q_t l_t
        refine (wdone_any h_a (by omega)).mono ?_
        rintro e w11 ⟨A2, c2, rfl, hA2, hb⟩
        replace v_x := v_x.below hb v_x.lt
        replace v_t := v_t.below hb v_t.lt
        replace h_q := h_q.below hb
        replace h_a := h_a.below hb
        replace bw := bw.trans (hb.mono bw.size)
        replace sz := bw.size
        clear hb
        clear lt_q
        have lt_q : ∀ k, (Ft p_q u_q) k → k < w11.heap.size := fun k hk => (h_q.ft hk).2
        clear lt_a
        have lt_a : ∀ k, (Ft p_a u10_a) k → k < w11.heap.size := fun k hk => (h_a.ft hk).2
        have q_x := v_x.cells
        have l_x := v_x.lt
        have q_t := v_t.cells
        have l_t := v_t.lt
        clear h_a lt_a sb_a D_a_x D_a_t D_a_q
        (try dsimp only)
        go_wp2_with fail
        clear q_x l_x q_t l_t
        refine (err_any h_q).mono ?_
        rintro e wq ⟨rfl, rfl⟩
        have q_x := v_x.cells
        have l_x := v_x.lt
        have q_t := v_t.cells
        have l_t := v_t.lt
        (try dsimp only)
        go_wp2_with fail
        clear q_x l_x q_t l_t
        refine (err_any h_q).mono ?_
        rintro e wq ⟨rfl, rfl⟩
        have q_x := v_x.cells
        have l_x := v_x.lt
        have q_t := v_t.cells
        have l_t := v_t.lt
        (try dsimp only)
        go_wp2_with fail
        clear q_x l_x q_t l_t
        have lq_x := v_x.lt
        have lq_t := v_t.lt
        refine (read_any w11 _ (Nat.le_refl _) A c _ b rfl ((HR.out.below bw).more bw.size) hb6).mono ?_
        rintro e w12 ⟨p_p, u_p, rfl, h_p, hb, hf⟩
        replace v_x := v_x.below hb v_x.lt
        replace v_t := v_t.below hb v_t.lt
        replace h_q := h_q.below hb
        have D_p_x : DJ (Ft p_p u_p) (· = w3.heap.size) := (DJ.fresh (N := w11.heap.size) (fun k hk => by subst hk; exact lq_x) hf).symm
        have D_p_t : DJ (Ft p_p u_p) (· = w7.heap.size) := (DJ.fresh (N := w11.heap.size) (fun k hk => by subst hk; exact lq_t) hf).symm
        have D_p_q : DJ (Ft p_p u_p) (Ft p_q u_q) := (DJ.fresh lt_q (N := w11.heap.size) hf).symm
        have sb_p : w.heap.size ≤ w11.heap.size := sz
        replace bw := bw.trans (hb.mono bw.size)
        replace sz := bw.size
        clear hb hf lq_x lq_t
        clear lt_q
        have lt_q : ∀ k, (Ft p_q u_q) k → k < w12.heap.size := fun k hk => (h_q.ft hk).2
        skip
        have lt_p : ∀ k, (Ft p_p u_p) k → k < w12.heap.size := fun k hk => (h_p.ft hk).2
        have q_x := v_x.cells
        have l_x := v_x.lt
        have q_t := v_t.cells
        have l_t := v_t.lt
        clear h_q lt_q sb_q D_q_x D_q_t D_p_q
        (try dsimp only)
        go_wp2_with fail
        clear q_x l_x q_t l_t
        have lq_x := v_x.lt
        have lq_t := v_t.lt
        refine (getBlock_any h_p).mono ?_
        rintro e w13 ⟨rfl, st⟩
        rw [HK.out] at st; obtain ⟨hh, tt⟩ := st; rw [HK.out]
        replace v_x := v_x.trn tt D_p_x
        replace v_t := v_t.trn tt D_p_t
        replace D_p_x : DJ (Ft p_p u_p) (· = w3.heap.size) := D_p_x.step tt (fun k hk => by subst hk; exact lq_x)
        replace D_p_t : DJ (Ft p_p u_p) (· = w7.heap.size) := D_p_t.step tt (fun k hk => by subst hk; exact lq_t)
        clear h_p
        have h_p := hh
        replace bw := bw.trans (tt.bel.mono sb_p)
        replace sz := bw.size
        clear hh tt lq_x lq_t
        clear lt_p
        have lt_p : ∀ k, (Ft p_p u_p) k → k < w13.heap.size := fun k hk => (h_p.ft hk).2
        have q_x := v_x.cells
        have l_x := v_x.lt
        have q_t := v_t.cells
        have l_t := v_t.lt
        have d_x_k := v_x.lt
        have d_t_k := v_t.lt
        (try dsimp only)
        go_wp2_with fail
        refine at_world (F := fun w' => Var w' (w3.heap.size) #[.slice X1 xs.length e1, .slice X2 ys.length e2] 76 ∧ Var w' (w7.heap.size) #[.int .i64 0, .int .i64 0, .int .i64 0, .bool false] 54 ∧ Var w' (w13.heap.size) #[.int .i64 0, .int .i64 0, .int .i64 0] 25 ∧ RdrAt w' w11.heap.size p_p u_p b s3 ∧ w13.heap.size ≤ w'.heap.size ∧ Below w.heap.size w w') ⟨(v_x).alloc _, (v_t).alloc _, Var.newE _ _ _ rfl, h_p.below (by go_grown), by go_size, by go_grown⟩ ?_
        clear q_x l_x v_x q_t l_t v_t h_p bw sz
        rintro w14 ⟨v_x, v_t, v_k, h_p, szn, bw⟩
        have sz := bw.size
        have D_p_k : DJ (Ft p_p u_p) (· = w13.heap.size) := DJ.fresh lt_p (N := w13.heap.size) (fun k hk => by subst hk; omega)
        clear lt_p
        have lt_p : ∀ k, (Ft p_p u_p) k → k < w14.heap.size := fun k hk => (h_p.ft hk).2
        clear szn
        have lq_x := v_x.lt
        have lq_t := v_t.lt
        have lq_k := v_k.lt
        refine (new_any w14 _ (Nat.le_refl _)).mono ?_
        rintro e w15 ⟨p_d, u_d, rfl, h_d, hb, hf⟩
        replace v_x := v_x.below hb v_x.lt
        replace v_t := v_t.below hb v_t.lt
        replace v_k := v_k.below hb v_k.lt
        replace h_p := h_p.below hb
        have D_d_x : DJ (Ft p_d u_d) (· = w3.heap.size) := (DJ.fresh (N := w14.heap.size) (fun k hk => by subst hk; exact lq_x) hf).symm
        have D_d_t : DJ (Ft p_d u_d) (· = w7.heap.size) := (DJ.fresh (N := w14.heap.size) (fun k hk => by subst hk; exact lq_t) hf).symm
        have D_d_k : DJ (Ft p_d u_d) (· = w13.heap.size) := (DJ.fresh (N := w14.heap.size) (fun k hk => by subst hk; exact lq_k) hf).symm
        have D_d_p : DJ (Ft p_d u_d) (Ft p_p u_p) := (DJ.fresh lt_p (N := w14.heap.size) hf).symm
        have sb_d : w.heap.size ≤ w14.heap.size := sz
        replace bw := bw.trans (hb.mono bw.size)
        replace sz := bw.size
        clear hb hf lq_x lq_t lq_k
        clear lt_p
        have lt_p : ∀ k, (Ft p_p u_p) k → k < w15.heap.size := fun k hk => (h_p.ft hk).2
        skip
        have lt_d : ∀ k, (Ft p_d u_d) k → k < w15.heap.size := fun k hk => (h_d.ft hk).2
        have q_x := v_x.cells
        have l_x := v_x.lt
        have q_t := v_t.cells
        have l_t := v_t.lt
        have q_k := v_k.cells
        have l_k := v_k.lt
        (try dsimp only)
        go_wp2_with fail
        clear q_x l_x q_t l_t q_k l_k
        have lq_x := v_x.lt
        have lq_t := v_t.lt
        have lq_k := v_k.lt
        refine (putBlock_any h_d ⟨0, 0, 0⟩ (by simp)).mono ?_
        rintro e w16 ⟨rfl, u16_d, hh, tt⟩
        replace v_x := v_x.trn tt D_d_x
        replace v_t := v_t.trn tt D_d_t
        replace v_k := v_k.trn tt D_d_k
        replace h_p := h_p.besideD tt D_d_p
        replace D_d_x : DJ (Ft p_d u16_d) (· = w3.heap.size) := D_d_x.step tt (fun k hk => by subst hk; exact lq_x)
        replace D_d_t : DJ (Ft p_d u16_d) (· = w7.heap.size) := D_d_t.step tt (fun k hk => by subst hk; exact lq_t)
        replace D_d_k : DJ (Ft p_d u16_d) (· = w13.heap.size) := D_d_k.step tt (fun k hk => by subst hk; exact lq_k)
        replace D_d_p : DJ (Ft p_d u16_d) (Ft p_p u_p) := D_d_p.step tt lt_p
        clear h_d
        have h_d := hh
        replace bw := bw.trans (tt.bel.mono sb_d)
        replace sz := bw.size
        clear hh tt lq_x lq_t lq_k
        clear lt_p
        have lt_p : ∀ k, (Ft p_p u_p) k → k < w16.heap.size := fun k hk => (h_p.ft hk).2
        clear lt_d
        have lt_d : ∀ k, (Ft p_d u16_d) k → k < w16.heap.size := fun k hk => (h_d.ft hk).2
        have q_x := v_x.cells
        have l_x := v_x.lt
        have q_t := v_t.cells
        have l_t := v_t.lt
        have q_k := v_k.cells
        have l_k := v_k.lt
        (try dsimp only)
        go_wp2_with fail
        clear q_x l_x q_t l_t q_k l_k
        refine (wdone_any h_d (by omega)).mono ?_
        rintro e w17 ⟨A3, c3, rfl, hA3, hb⟩
        replace v_x := v_x.below hb v_x.lt
        replace v_t := v_t.below hb v_t.lt
        replace v_k := v_k.below hb v_k.lt
        replace h_p := h_p.below hb
        replace h_d := h_d.below hb
        replace bw := bw.trans (hb.mono bw.size)
        replace sz := bw.size
        clear hb
        clear lt_p
        have lt_p : ∀ k, (Ft p_p u_p) k → k < w17.heap.size := fun k hk => (h_p.ft hk).2
        clear lt_d
        have lt_d : ∀ k, (Ft p_d u16_d) k → k < w17.heap.size := fun k hk => (h_d.ft hk).2
        have q_x := v_x.cells
        have l_x := v_x.lt
        have q_t := v_t.cells
        have l_t := v_t.lt
        have q_k := v_k.cells
        have l_k := v_k.lt
        clear h_d lt_d sb_d D_d_x D_d_t D_d_k D_d_p
        (try dsimp only)
        go_wp2_with fail
        clear q_x l_x q_t l_t q_k l_k
        refine (err_any h_p).mono ?_
        rintro e wq ⟨rfl, rfl⟩
        have q_x := v_x.cells
        have l_x := v_x.lt
        have q_t := v_t.cells
        have l_t := v_t.lt
        have q_k := v_k.cells
        have l_k := v_k.lt
        (try dsimp only)
        go_wp2_with fail
        clear q_x l_x q_t l_t q_k l_k
        refine (alive_any _).mono ?_
        rintro e w18 ⟨rfl, hb⟩
        replace v_x := v_x.below hb v_x.lt
        replace v_t := v_t.below hb v_t.lt
        replace v_k := v_k.below hb v_k.lt
        replace h_p := h_p.below hb
        replace bw := bw.trans (hb.mono bw.size)
        replace sz := bw.size
        clear hb
        clear lt_p
        have lt_p : ∀ k, (Ft p_p u_p) k → k < w18.heap.size := fun k hk => (h_p.ft hk).2
        have q_x := v_x.cells
        have l_x := v_x.lt
        have q_t := v_t.cells
        have l_t := v_t.lt
        have q_k := v_k.cells
        have l_k := v_k.lt
        go_wp2
        go_ret
        exact ⟨rfl, bw⟩
  · have f1 : (s1.err == 0) = false := by simpa using h1
    have f2 : (s1.err != 0) = true := by simpa using h1
    have hz := hf2 h1
    injection hz with hz1 hz2
    subst hz1 hz2
    clear h1 hf1 hf2
    by_cases h2 : s2.err = 0
    · have i1 : (s2.err == 0) = true := by simpa using h2
      have i2 : (s2.err != 0) = false := by simpa using h2
      have hto := ht1 h2
      have hte := Oct.putTable_err (s := ⟨[], 0⟩) rfl hto.1 hto.2
      have gT : ((Oct.putTable ⟨[], 0⟩ z0 ⟨z1, z2, z3⟩).err != 0) = false := by simpa using hte
      have hpt : (Oct.putTable ⟨[], 0⟩ z0 ⟨z1, z2, z3⟩).b.length ≤ 1000 := by have := Oct.putTable_len ⟨[], 0⟩ z0 ⟨z1, z2, z3⟩; simp at this; omega
      clear h2 ht1 ht2 hto hte
      by_cases h3 : s3.err = 0
      · have j1 : (s3.err == 0) = true := by simpa using h3
        have j2 : (s3.err != 0) = false := by simpa using h3
        clear h3 hk3
        go_enter Try.func8, Try.ntmps8
        (try dsimp only)
        go_wp2_with fail
        refine at_world (F := fun w' => Below w.heap.size w w') (by go_grown) ?_
        rintro w1 bw
        have sz := bw.size
        refine (read_any w1 _ (Nat.le_refl _) A c _ b rfl ((HR.out.below bw).more bw.size) hb6).mono ?_
        rintro e w2 ⟨p_r, u_r, rfl, h_r, hb, hf⟩
        have sb_r : w.heap.size ≤ w1.heap.size := sz
        replace bw := bw.trans (hb.mono bw.size)
        replace sz := bw.size
        clear hb hf
        skip
        have lt_r : ∀ k, (Ft p_r u_r) k → k < w2.heap.size := fun k hk => (h_r.ft hk).2
        (try dsimp only)
        go_wp2_with fail
        refine (getFunc_any h_r).mono ?_
        rintro e w3 ⟨X1, e1, X2, e2, rfl, L1, L2, st⟩
        rw [HY.out] at st L1 L2; obtain ⟨hh, tt⟩ := st; rw [HY.out]; have R_x1 := L1.rd; have R_x2 := L2.rd; clear L1 L2; dsimp only at R_x1 R_x2
        clear h_r
        have h_r := hh
        replace bw := bw.trans (tt.bel.mono sb_r)
        replace sz := bw.size
        clear hh tt
        clear lt_r
        have lt_r : ∀ k, (Ft p_r u_r) k → k < w3.heap.size := fun k hk => (h_r.ft hk).2
        clear R_x1 R_x2
        (try dsimp only)
        go_wp2_with fail
        refine at_world (F := fun w' => Var w' (w3.heap.size) #[.slice X1 0 e1, .slice X2 0 e2] 76 ∧ RdrAt w' w1.heap.size p_r u_r b s1 ∧ w3.heap.size ≤ w'.heap.size ∧ Below w.heap.size w w') ⟨Var.newE _ _ _ rfl, h_r.below (by go_grown), by go_size, by go_grown⟩ ?_
        clear  h_r bw sz
        rintro w4 ⟨v_x, h_r, szn, bw⟩
        have sz := bw.size
        have D_r_x : DJ (Ft p_r u_r) (· = w3.heap.size) := DJ.fresh lt_r (N := w3.heap.size) (fun k hk => by subst hk; omega)
        clear lt_r
        have lt_r : ∀ k, (Ft p_r u_r) k → k < w4.heap.size := fun k hk => (h_r.ft hk).2
        clear szn
        refine (err_any h_r).mono ?_
        rintro e wq ⟨rfl, rfl⟩
        have q_x := v_x.cells
        have l_x := v_x.lt
        (try dsimp only)
        go_wp2_with fail
        clear q_x l_x
        refine (err_any h_r).mono ?_
        rintro e wq ⟨rfl, rfl⟩
        have q_x := v_x.cells
        have l_x := v_x.lt
        (try dsimp only)
        go_wp2_with fail
        clear q_x l_x
        have lq_x := v_x.lt
        refine (read_any w4 _ (Nat.le_refl _) A c _ b rfl ((HR.out.below bw).more bw.size) hb6).mono ?_
        rintro e w5 ⟨p_q, u_q, rfl, h_q, hb, hf⟩
        replace v_x := v_x.below hb v_x.lt
        replace h_r := h_r.below hb
        have D_q_x : DJ (Ft p_q u_q) (· = w3.heap.size) := (DJ.fresh (N := w4.heap.size) (fun k hk => by subst hk; exact lq_x) hf).symm
        have D_q_r : DJ (Ft p_q u_q) (Ft p_r u_r) := (DJ.fresh lt_r (N := w4.heap.size) hf).symm
        have sb_q : w.heap.size ≤ w4.heap.size := sz
        replace bw := bw.trans (hb.mono bw.size)
        replace sz := bw.size
        clear hb hf lq_x
        clear lt_r
        have lt_r : ∀ k, (Ft p_r u_r) k → k < w5.heap.size := fun k hk => (h_r.ft hk).2
        skip
        have lt_q : ∀ k, (Ft p_q u_q) k → k < w5.heap.size := fun k hk => (h_q.ft hk).2
        have q_x := v_x.cells
        have l_x := v_x.lt
        clear h_r lt_r sb_r D_r_x D_q_r
        (try dsimp only)
        go_wp2_with fail
        clear q_x l_x
        have lq_x := v_x.lt
        refine (getTable_any h_q).mono ?_
        rintro e w6 ⟨rfl, st⟩
        rw [HZ.out] at st; obtain ⟨hh, tt⟩ := st; rw [HZ.out]
        replace v_x := v_x.trn tt D_q_x
        replace D_q_x : DJ (Ft p_q u_q) (· = w3.heap.size) := D_q_x.step tt (fun k hk => by subst hk; exact lq_x)
        clear h_q
        have h_q := hh
        replace bw := bw.trans (tt.bel.mono sb_q)
        replace sz := bw.size
        clear hh tt lq_x
        clear lt_q
        have lt_q : ∀ k, (Ft p_q u_q) k → k < w6.heap.size := fun k hk => (h_q.ft hk).2
        have q_x := v_x.cells
        have l_x := v_x.lt
        have d_x_t := v_x.lt
        (try dsimp only)
        go_wp2_with fail
        refine at_world (F := fun w' => Var w' (w3.heap.size) #[.slice X1 0 e1, .slice X2 0 e2] 76 ∧ Var w' (w6.heap.size) #[.int .i64 z0, .int .i64 z1, .int .i64 z2, .bool z3] 54 ∧ RdrAt w' w4.heap.size p_q u_q b s2 ∧ w6.heap.size ≤ w'.heap.size ∧ Below w.heap.size w w') ⟨(v_x).alloc _, Var.newE _ _ _ rfl, h_q.below (by go_grown), by go_size, by go_grown⟩ ?_
        clear q_x l_x v_x h_q bw sz
        rintro w7 ⟨v_x, v_t, h_q, szn, bw⟩
        have sz := bw.size
        have D_q_t : DJ (Ft p_q u_q) (· = w6.heap.size) := DJ.fresh lt_q (N := w6.heap.size) (fun k hk => by subst hk; omega)
        clear lt_q
        have lt_q : ∀ k, (Ft p_q u_q) k → k < w7.heap.size := fun k hk => (h_q.ft hk).2
        clear szn
        have lq_x := v_x.lt
        have lq_t := v_t.lt
        refine (new_any w7 _ (Nat.le_refl _)).mono ?_
        rintro e w8 ⟨p_a, u_a, rfl, h_a, hb, hf⟩
        replace v_x := v_x.below hb v_x.lt
        replace v_t := v_t.below hb v_t.lt
        replace h_q := h_q.below hb
        have D_a_x : DJ (Ft p_a u_a) (· = w3.heap.size) := (DJ.fresh (N := w7.heap.size) (fun k hk => by subst hk; exact lq_x) hf).symm
        have D_a_t : DJ (Ft p_a u_a) (· = w6.heap.size) := (DJ.fresh (N := w7.heap.size) (fun k hk => by subst hk; exact lq_t) hf).symm
        have D_a_q : DJ (Ft p_a u_a) (Ft p_q u_q) := (DJ.fresh lt_q (N := w7.heap.size) hf).symm
        have sb_a : w.heap.size ≤ w7.heap.size := sz
        replace bw := bw.trans (hb.mono bw.size)
        replace sz := bw.size
        clear hb hf lq_x lq_t
        clear lt_q
        have lt_q : ∀ k, (Ft p_q u_q) k → k < w8.heap.size := fun k hk => (h_q.ft hk).2
        skip
        have lt_a : ∀ k, (Ft p_a u_a) k → k < w8.heap.size := fun k hk => (h_a.ft hk).2
        have q_x := v_x.cells
        have l_x := v_x.lt
        have q_t := v_t.cells
        have l_t := v_t.lt
        (try dsimp only)
        go_wp2_with fail
        clear q_x l_x q_t l_t
        have lq_x := v_x.lt
        have lq_t := v_t.lt
        refine (putTable_any h_a z0 ⟨z1, z2, z3⟩ (by simp)).mono ?_
        rintro e w9 ⟨rfl, u9_a, hh, tt⟩
        replace v_x := v_x.trn tt D_a_x
        replace v_t := v_t.trn tt D_a_t
        replace h_q := h_q.besideD tt D_a_q
        replace D_a_x : DJ (Ft p_a u9_a) (· = w3.heap.size) := D_a_x.step tt (fun k hk => by subst hk; exact lq_x)
        replace D_a_t : DJ (Ft p_a u9_a) (· = w6.heap.size) := D_a_t.step tt (fun k hk => by subst hk; exact lq_t)
        replace D_a_q : DJ (Ft p_a u9_a) (Ft p_q u_q) := D_a_q.step tt lt_q
        clear h_a
        have h_a := hh
        replace bw := bw.trans (tt.bel.mono sb_a)
        replace sz := bw.size
        clear hh tt lq_x lq_t
        clear lt_q
        have lt_q : ∀ k, (Ft p_q u_q) k → k < w9.heap.size := fun k hk => (h_q.ft hk).2
        clear lt_a
        have lt_a : ∀ k, (Ft p_a u9_a) k → k < w9.heap.size := fun k hk => (h_a.ft hk).2
        have q_x := v_x.cells
        have l_x := v_x.lt
        have q_t := v_t.cells
        have l_t := v_t.lt
        (try dsimp only)
        go_wp2_with fail
        clear q_x l_x q_t l_t
        refine (wdone_any h_a (by omega)).mono ?_
        rintro e w10 ⟨A2, c2, rfl, hA2, hb⟩
        replace v_x := v_x.below hb v_x.lt
        replace v_t := v_t.below hb v_t.lt
        replace h_q := h_q.below hb
        replace h_a := h_a.below hb
        replace bw := bw.trans (hb.mono bw.size)
        replace sz := bw.size
        clear hb
        clear lt_q
        have lt_q : ∀ k, (Ft p_q u_q) k → k < w10.heap.size := fun k hk => (h_q.ft hk).2
        clear lt_a
        have lt_a : ∀ k, (Ft p_a u9_a) k → k < w10.heap.size := fun k hk => (h_a.ft hk).2
        have q_x := v_x.cells
        have l_x := v_x.lt
        have q_t := v_t.cells
        have l_t := v_t.lt
        clear h_a lt_a sb_a D_a_x D_a_t D_a_q
        (try dsimp only)
        go_wp2_with fail
        clear q_x l_x q_t l_t
        refine (err_any h_q).mono ?_
        rintro e wq ⟨rfl, rfl⟩
        have q_x := v_x.cells
        have l_x := v_x.lt
        have q_t := v_t.cells
        have l_t := v_t.lt
        (try dsimp only)
        go_wp2_with fail
        clear q_x l_x q_t l_t
        refine (err_any h_q).mono ?_
        rintro e wq ⟨rfl, rfl⟩
        have q_x := v_x.cells
        have l_x := v_x.lt
        have q_t := v_t.cells
        have l_t := v_t.lt
        (try dsimp only)
        go_wp2_with fail
        clear q_x l_x q_t l_t
        have lq_x := v_x.lt
        have lq_t := v_t.lt
        refine (read_any w10 _ (Nat.le_refl _) A c _ b rfl ((HR.out.below bw).more bw.size) hb6).mono ?_
        rintro e w11 ⟨p_p, u_p, rfl, h_p, hb, hf⟩
        replace v_x := v_x.below hb v_x.lt
        replace v_t := v_t.below hb v_t.lt
        replace h_q := h_q.below hb
        have D_p_x : DJ (Ft p_p u_p) (· = w3.heap.size) := (DJ.fresh (N := w10.heap.size) (fun k hk => by subst hk; exact lq_x) hf).symm
        have D_p_t : DJ (Ft p_p u_p) (· = w6.heap.size) := (DJ.fresh (N := w10.heap.size) (fun k hk => by subst hk; exact lq_t) hf).symm
        have D_p_q : DJ (Ft p_p u_p) (Ft p_q u_q) := (DJ.fresh lt_q (N := w10.heap.size) hf).symm
        have sb_p : w.heap.size ≤ w10.heap.size := sz
        replace bw := bw.trans (hb.mono bw.size)
        replace sz := bw.size
        clear hb hf lq_x lq_t
        clear lt_q
        have lt_q : ∀ k, (Ft p_q u_q) k → k < w11.heap.size := fun k hk => (h_q.ft hk).2
        skip
        have lt_p : ∀ k, (Ft p_p u_p) k → k < w11.heap.size := fun k hk => (h_p.ft hk).2
        have q_x := v_x.cells
        have l_x := v_x.lt
        have q_t := v_t.cells
        have l_t := v_t.lt
        clear h_q lt_q sb_q D_q_x D_q_t D_p_q
        (try dsimp only)
        go_wp2_with fail
        clear q_x l_x q_t l_t
        have lq_x := v_x.lt
        have lq_t := v_t.lt
        refine (getBlock_any h_p).mono ?_
        rintro e w12 ⟨rfl, st⟩
        rw [HK.out] at st; obtain ⟨hh, tt⟩ := st; rw [HK.out]
        replace v_x := v_x.trn tt D_p_x
        replace v_t := v_t.trn tt D_p_t
        replace D_p_x : DJ (Ft p_p u_p) (· = w3.heap.size) := D_p_x.step tt (fun k hk => by subst hk; exact lq_x)
        replace D_p_t : DJ (Ft p_p u_p) (· = w6.heap.size) := D_p_t.step tt (fun k hk => by subst hk; exact lq_t)
        clear h_p
        have h_p := hh
        replace bw := bw.trans (tt.bel.mono sb_p)
        replace sz := bw.size
        clear hh tt lq_x lq_t
        clear lt_p
        have lt_p : ∀ k, (Ft p_p u_p) k → k < w12.heap.size := fun k hk => (h_p.ft hk).2
        have q_x := v_x.cells
        have l_x := v_x.lt
        have q_t := v_t.cells
        have l_t := v_t.lt
        have d_x_k := v_x.lt
        have d_t_k := v_t.lt
        (try dsimp only)
        go_wp2_with fail
        refine at_world (F := fun w' => Var w' (w3.heap.size) #[.slice X1 0 e1, .slice X2 0 e2] 76 ∧ Var w' (w6.heap.size) #[.int .i64 z0, .int .i64 z1, .int .i64 z2, .bool z3] 54 ∧ Var w' (w12.heap.size) #[.int .i64 k1, .int .i64 k2, .int .i64 k3] 25 ∧ RdrAt w' w10.heap.size p_p u_p b s3 ∧ w12.heap.size ≤ w'.heap.size ∧ Below w.heap.size w w') ⟨(v_x).alloc _, (v_t).alloc _, Var.newE _ _ _ rfl, h_p.below (by go_grown), by go_size, by go_grown⟩ ?_
        clear q_x l_x v_x q_t l_t v_t h_p bw sz
        rintro w13 ⟨v_x, v_t, v_k, h_p, szn, bw⟩
        have sz := bw.size
        have D_p_k : DJ (Ft p_p u_p) (· = w12.heap.size) := DJ.fresh lt_p (N := w12.heap.size) (fun k hk => by subst hk; omega)
        clear lt_p
        have lt_p : ∀ k, (Ft p_p u_p) k → k < w13.heap.size := fun k hk => (h_p.ft hk).2
        clear szn
        have lq_x := v_x.lt
        have lq_t := v_t.lt
        have lq_k := v_k.lt
        refine (new_any w13 _ (Nat.le_refl _)).mono ?_
        rintro e w14 ⟨p_d, u_d, rfl, h_d, hb, hf⟩
        replace v_x := v_x.below hb v_x.lt
        replace v_t := v_t.below hb v_t.lt
        replace v_k := v_k.below hb v_k.lt
        replace h_p := h_p.below hb
        have D_d_x : DJ (Ft p_d u_d) (· = w3.heap.size) := (DJ.fresh (N := w13.heap.size) (fun k hk => by subst hk; exact lq_x) hf).symm
        have D_d_t : DJ (Ft p_d u_d) (· = w6.heap.size) := (DJ.fresh (N := w13.heap.size) (fun k hk => by subst hk; exact lq_t) hf).symm
        have D_d_k : DJ (Ft p_d u_d) (· = w12.heap.size) := (DJ.fresh (N := w13.heap.size) (fun k hk => by subst hk; exact lq_k) hf).symm
        have D_d_p : DJ (Ft p_d u_d) (Ft p_p u_p) := (DJ.fresh lt_p (N := w13.heap.size) hf).symm
        have sb_d : w.heap.size ≤ w13.heap.size := sz
        replace bw := bw.trans (hb.mono bw.size)
        replace sz := bw.size
        clear hb hf lq_x lq_t lq_k
        clear lt_p
        have lt_p : ∀ k, (Ft p_p u_p) k → k < w14.heap.size := fun k hk => (h_p.ft hk).2
        skip
        have lt_d : ∀ k, (Ft p_d u_d) k → k < w14.heap.size := fun k hk => (h_d.ft hk).2
        have q_x := v_x.cells
        have l_x := v_x.lt
        have q_t := v_t.cells
        have l_t := v_t.lt
        have q_k := v_k.cells
        have l_k := v_k.lt
        (try dsimp only)
        go_wp2_with fail
        clear q_x l_x q_t l_t q_k l_k
        have lq_x := v_x.lt
        have lq_t := v_t.lt
        have lq_k := v_k.lt
        refine (putBlock_any h_d ⟨k1, k2, k3⟩ (by simp)).mono ?_
        rintro e w15 ⟨rfl, u15_d, hh, tt⟩
        replace v_x := v_x.trn tt D_d_x
        replace v_t := v_t.trn tt D_d_t
        replace v_k := v_k.trn tt D_d_k
        replace h_p := h_p.besideD tt D_d_p
        replace D_d_x : DJ (Ft p_d u15_d) (· = w3.heap.size) := D_d_x.step tt (fun k hk => by subst hk; exact lq_x)
        replace D_d_t : DJ (Ft p_d u15_d) (· = w6.heap.size) := D_d_t.step tt (fun k hk => by subst hk; exact lq_t)
        replace D_d_k : DJ (Ft p_d u15_d) (· = w12.heap.size) := D_d_k.step tt (fun k hk => by subst hk; exact lq_k)
        replace D_d_p : DJ (Ft p_d u15_d) (Ft p_p u_p) := D_d_p.step tt lt_p
        clear h_d
        have h_d := hh
        replace bw := bw.trans (tt.bel.mono sb_d)
        replace sz := bw.size
        clear hh tt lq_x lq_t lq_k
        clear lt_p
        have lt_p : ∀ k, (Ft p_p u_p) k → k < w15.heap.size := fun k hk => (h_p.ft hk).2
        clear lt_d
        have lt_d : ∀ k, (Ft p_d u15_d) k → k < w15.heap.size := fun k hk => (h_d.ft hk).2
        have q_x := v_x.cells
        have l_x := v_x.lt
        have q_t := v_t.cells
        have l_t := v_t.lt
        have q_k := v_k.cells
        have l_k := v_k.lt
        (try dsimp only)
        go_wp2_with fail
        clear q_x l_x q_t l_t q_k l_k
        refine (wdone_any h_d (by omega)).mono ?_
        rintro e w16 ⟨A3, c3, rfl, hA3, hb⟩
        replace v_x := v_x.below hb v_x.lt
        replace v_t := v_t.below hb v_t.lt
        replace v_k := v_k.below hb v_k.lt
        replace h_p := h_p.below hb
        replace h_d := h_d.below hb
        replace bw := bw.trans (hb.mono bw.size)
        replace sz := bw.size
        clear hb
        clear lt_p
        have lt_p : ∀ k, (Ft p_p u_p) k → k < w16.heap.size := fun k hk => (h_p.ft hk).2
        clear lt_d
        have lt_d : ∀ k, (Ft p_d u15_d) k → k < w16.heap.size := fun k hk => (h_d.ft hk).2
        have q_x := v_x.cells
        have l_x := v_x.lt
        have q_t := v_t.cells
        have l_t := v_t.lt
        have q_k := v_k.cells
        have l_k := v_k.lt
        clear h_d lt_d sb_d D_d_x D_d_t D_d_k D_d_p
        (try dsimp only)
        go_wp2_with fail
        clear q_x l_x q_t l_t q_k l_k
        refine (err_any h_p).mono ?_
        rintro e wq ⟨rfl, rfl⟩
        have q_x := v_x.cells
        have l_x := v_x.lt
        have q_t := v_t.cells
        have l_t := v_t.lt
        have q_k := v_k.cells
        have l_k := v_k.lt
        (try dsimp only)
        go_wp2_with fail
        clear q_x l_x q_t l_t q_k l_k
        refine (alive_any _).mono ?_
        rintro e w17 ⟨rfl, hb⟩
        replace v_x := v_x.below hb v_x.lt
        replace v_t := v_t.below hb v_t.lt
        replace v_k := v_k.below hb v_k.lt
        replace h_p := h_p.below hb
        replace bw := bw.trans (hb.mono bw.size)
        replace sz := bw.size
        clear hb
        clear lt_p
        have lt_p : ∀ k, (Ft p_p u_p) k → k < w17.heap.size := fun k hk => (h_p.ft hk).2
        have q_x := v_x.cells
        have l_x := v_x.lt
        have q_t := v_t.cells
        have l_t := v_t.lt
        have q_k := v_k.cells
        have l_k := v_k.lt
        go_wp2
        go_ret
        exact ⟨rfl, bw⟩
      · have j1 : (s3.err == 0) = false := by simpa using h3
        have j2 : (s3.err != 0) = true := by simpa using h3
        have hz : (⟨k1, k2, k3⟩ : Oct.Blk) = ⟨0, 0, 0⟩ := hk3.resolve_left h3
        injection hz with hz1 hz2 hz3
        subst hz1 hz2 hz3
        clear h3 hk3
        go_enter Try.func8, Try.ntmps8
        (try dsimp only)
        go_wp2_with fail
        refine at_world (F := fun w' => Below w.heap.size w w') (by go_grown) ?_
        rintro w1 bw
        have sz := bw.size
        refine (read_any w1 _ (Nat.le_refl _) A c _ b rfl ((HR.out.below bw).more bw.size) hb6).mono ?_
        rintro e w2 ⟨p_r, u_r, rfl, h_r, hb, hf⟩
        have sb_r : w.heap.size ≤ w1.heap.size := sz
        replace bw := bw.trans (hb.mono bw.size)
        replace sz := bw.size
        clear hb hf
        skip
        have lt_r : ∀ k, (Ft p_r u_r) k → k < w2.heap.size := fun k hk => (h_r.ft hk).2
        (try dsimp only)
        go_wp2_with fail
        refine (getFunc_any h_r).mono ?_
        rintro e w3 ⟨X1, e1, X2, e2, rfl, L1, L2, st⟩
        rw [HY.out] at st L1 L2; obtain ⟨hh, tt⟩ := st; rw [HY.out]; have R_x1 := L1.rd; have R_x2 := L2.rd; clear L1 L2; dsimp only at R_x1 R_x2
        clear h_r
        have h_r := hh
        replace bw := bw.trans (tt.bel.mono sb_r)
        replace sz := bw.size
        clear hh tt
        clear lt_r
        have lt_r : ∀ k, (Ft p_r u_r) k → k < w3.heap.size := fun k hk => (h_r.ft hk).2
        clear R_x1 R_x2
        (try dsimp only)
        go_wp2_with fail
        refine at_world (F := fun w' => Var w' (w3.heap.size) #[.slice X1 0 e1, .slice X2 0 e2] 76 ∧ RdrAt w' w1.heap.size p_r u_r b s1 ∧ w3.heap.size ≤ w'.heap.size ∧ Below w.heap.size w w') ⟨Var.newE _ _ _ rfl, h_r.below (by go_grown), by go_size, by go_grown⟩ ?_
        clear  h_r bw sz
        rintro w4 ⟨v_x, h_r, szn, bw⟩
        have sz := bw.size
        have D_r_x : DJ (Ft p_r u_r) (· = w3.heap.size) := DJ.fresh lt_r (N := w3.heap.size) (fun k hk => by subst hk; omega)
        clear lt_r
        have lt_r : ∀ k, (Ft p_r u_r) k → k < w4.heap.size := fun k hk => (h_r.ft hk).2
        clear szn
        refine (err_any h_r).mono ?_
        rintro e wq ⟨rfl, rfl⟩
        have q_x := v_x.cells
        have l_x := v_x.lt
        (try dsimp only)
        go_wp2_with fail
        clear q_x l_x
        refine (err_any h_r).mono ?_
        rintro e wq ⟨rfl, rfl⟩
        have q_x := v_x.cells
        have l_x := v_x.lt
        (try dsimp only)
        go_wp2_with fail
        clear q_x l_x
        have lq_x := v_x.lt
        refine (read_any w4 _ (Nat.le_refl _) A c _ b rfl ((HR.out.below bw).more bw.size) hb6).mono ?_
        rintro e w5 ⟨p_q, u_q, rfl, h_q, hb, hf⟩
        replace v_x := v_x.below hb v_x.lt
        replace h_r := h_r.below hb
        have D_q_x : DJ (Ft p_q u_q) (· = w3.heap.size) := (DJ.fresh (N := w4.heap.size) (fun k hk => by subst hk; exact lq_x) hf).symm
        have D_q_r : DJ (Ft p_q u_q) (Ft p_r u_r) := (DJ.fresh lt_r (N := w4.heap.size) hf).symm
        have sb_q : w.heap.size ≤ w4.heap.size := sz
        replace bw := bw.trans (hb.mono bw.size)
        replace sz := bw.size
        clear hb hf lq_x
        clear lt_r
        have lt_r : ∀ k, (Ft p_r u_r) k → k < w5.heap.size := fun k hk => (h_r.ft hk).2
        skip
        have lt_q : ∀ k, (Ft p_q u_q) k → k < w5.heap.size := fun k hk => (h_q.ft hk).2
        have q_x := v_x.cells
        have l_x := v_x.lt
        clear h_r lt_r sb_r D_r_x D_q_r
        (try dsimp only)
        go_wp2_with fail
        clear q_x l_x
        have lq_x := v_x.lt
        refine (getTable_any h_q).mono ?_
        rintro e w6 ⟨rfl, st⟩
        rw [HZ.out] at st; obtain ⟨hh, tt⟩ := st; rw [HZ.out]
        replace v_x := v_x.trn tt D_q_x
        replace D_q_x : DJ (Ft p_q u_q) (· = w3.heap.size) := D_q_x.step tt (fun k hk => by subst hk; exact lq_x)
        clear h_q
        have h_q := hh
        replace bw := bw.trans (tt.bel.mono sb_q)
        replace sz := bw.size
        clear hh tt lq_x
        clear lt_q
        have lt_q : ∀ k, (Ft p_q u_q) k → k < w6.heap.size := fun k hk => (h_q.ft hk).2
        have q_x := v_x.cells
        have l_x := v_x.lt
        have d_x_t := v_x.lt
        (try dsimp only)
        go_wp2_with fail
        refine at_world (F := fun w' => Var w' (w3.heap.size) #[.slice X1 0 e1, .slice X2 0 e2] 76 ∧ Var w' (w6.heap.size) #[.int .i64 z0, .int .i64 z1, .int .i64 z2, .bool z3] 54 ∧ RdrAt w' w4.heap.size p_q u_q b s2 ∧ w6.heap.size ≤ w'.heap.size ∧ Below w.heap.size w w') ⟨(v_x).alloc _, Var.newE _ _ _ rfl, h_q.below (by go_grown), by go_size, by go_grown⟩ ?_
        clear q_x l_x v_x h_q bw sz
        rintro w7 ⟨v_x, v_t, h_q, szn, bw⟩
        have sz := bw.size
        have D_q_t : DJ (Ft p_q u_q) (· = w6.heap.size) := DJ.fresh lt_q (N := w6.heap.size) (fun k hk => by subst hk; omega)
        clear lt_q
        have lt_q : ∀ k, (Ft p_q u_q) k → k < w7.heap.size := fun k hk => (h_q.ft hk).2
        clear szn
        have lq_x := v_x.lt
        have lq_t := v_t.lt
        refine (new_any w7 _ (Nat.le_refl _)).mono ?_
        rintro e w8 ⟨p_a, u_a, rfl, h_a, hb, hf⟩
        replace v_x := v_x.below hb v_x.lt
        replace v_t := v_t.below hb v_t.lt
        replace h_q := h_q.below hb
        have D_a_x : DJ (Ft p_a u_a) (· = w3.heap.size) := (DJ.fresh (N := w7.heap.size) (fun k hk => by subst hk; exact lq_x) hf).symm
        have D_a_t : DJ (Ft p_a u_a) (· = w6.heap.size) := (DJ.fresh (N := w7.heap.size) (fun k hk => by subst hk; exact lq_t) hf).symm
        have D_a_q : DJ (Ft p_a u_a) (Ft p_q u_q) := (DJ.fresh lt_q (N := w7.heap.size) hf).symm
        have sb_a : w.heap.size ≤ w7.heap.size := sz
        replace bw := bw.trans (hb.mono bw.size)
        replace sz := bw.size
        clear hb hf lq_x lq_t
        clear lt_q
        have lt_q : ∀ k, (Ft p_q u_q) k → k < w8.heap.size := fun k hk => (h_q.ft hk).2
        skip
        have lt_a : ∀ k, (Ft p_a u_a) k → k < w8.heap.size := fun k hk => (h_a.ft hk).2
        have q_x := v_x.cells
        have l_x := v_x.lt
        have q_t := v_t.cells
        have l_t := v_t.lt
        (try dsimp only)
        go_wp2_with fail
        clear q_x l_x q_t l_t
        have lq_x := v_x.lt
        have lq_t := v_t.lt
        refine (putTable_any h_a z0 ⟨z1, z2, z3⟩ (by simp)).mono ?_
        rintro e w9 ⟨rfl, u9_a, hh, tt⟩
        replace v_x := v_x.trn tt D_a_x
        replace v_t := v_t.trn tt D_a_t
        replace h_q := h_q.besideD tt D_a_q
        replace D_a_x : DJ (Ft p_a u9_a) (· = w3.heap.size) := D_a_x.step tt (fun k hk => by subst hk; exact lq_x)
        replace D_a_t : DJ (Ft p_a u9_a) (· = w6.heap.size) := D_a_t.step tt (fun k hk => by subst hk; exact lq_t)
        replace D_a_q : DJ (Ft p_a u9_a) (Ft p_q u_q) := D_a_q.step tt lt_q
        clear h_a
        have h_a := hh
        replace bw := bw.trans (tt.bel.mono sb_a)
        replace sz := bw.size
        clear hh tt lq_x lq_t
        clear lt_q
        have lt_q : ∀ k, (Ft p_q u_q) k → k < w9.heap.size := fun k hk => (h_q.ft hk).2
        clear lt_a
        have lt_a : ∀ k, (Ft p_a u9_a) k → k < w9.heap.size := fun k hk => (h_a.ft hk).2
        have q_x := v_x.cells
        have l_x := v_x.lt
        have q_t := v_t.cells
        have l_t := v_t.lt
        (try dsimp only)
        go_wp2_with fail
        clear q_x l_x q_t l_t
        refine (wdone_any h_a (by omega)).mono ?_
        rintro e w10 ⟨A2, c2, rfl, hA2, hb⟩
        replace v_x := v_x.below hb v_x.lt
        replace v_t := v_t.below hb v_t.lt
        replace h_q := h_q.below hb
        replace h_a := h_a.below hb
        replace bw := bw.trans (hb.mono bw.size)
        replace sz := bw.size
        clear hb
        clear lt_q
        have lt_q : ∀ k, (Ft p_q u_q) k → k < w10.heap.size := fun k hk => (h_q.ft hk).2
        clear lt_a
        have lt_a : ∀ k, (Ft p_a u9_a) k → k < w10.heap.size := fun k hk => (h_a.ft hk).2
        have q_x := v_x.cells
        have l_x := v_x.lt
        have q_t := v_t.cells
        have l_t := v_t.lt
        clear h_a lt_a sb_a D_a_x D_a_t D_a_q
        (try dsimp only)
        go_wp2_with fail
        clear q_x l_x q_t l_t
        refine (err_any h_q).mono ?_
        rintro e wq ⟨rfl, rfl⟩
        have q_x := v_x.cells
        have l_x := v_x.lt
        have q_t := v_t.cells
        have l_t := v_t.lt
        (try dsimp only)
        go_wp2_with fail
        clear q_x l_x q_t l_t
        refine (err_any h_q).mono ?_
        rintro e wq ⟨rfl, rfl⟩
        have q_x := v_x.cells
        have l_x := v_x.lt
        have q_t := v_t.cells
        have l_t := v_t.lt
        (try dsimp only)
        go_wp2_with fail
        clear q_x l_x q_t l_t
        have lq_x := v_x.lt
        have lq_t := v_t.lt
        refine (read_any w10 _ (Nat.le_refl _) A c _ b rfl ((HR.out.below bw).more bw.size) hb6).mono ?_
        rintro e w11 ⟨p_p, u_p, rfl, h_p, hb, hf⟩
        replace v_x := v_x.below hb v_x.lt
        replace v_t := v_t.below hb v_t.lt
        replace h_q := h_q.below hb
        have D_p_x : DJ (Ft p_p u_p) (· = w3.heap.size) := (DJ.fresh (N := w10.heap.size) (fun k hk => by subst hk; exact lq_x) hf).symm
        have D_p_t : DJ (Ft p_p u_p) (· = w6.heap.size) := (DJ.fresh (N := w10.heap.size) (fun k hk => by subst hk; exact lq_t) hf).symm
        have D_p_q : DJ (Ft p_p u_p) (Ft p_q u_q) := (DJ.fresh lt_q (N := w10.heap.size) hf).symm
        have sb_p : w.heap.size ≤ w10.heap.size := sz
        replace bw := bw.trans (hb.mono bw.size)
        replace sz := bw.size
        clear hb hf lq_x lq_t
        clear lt_q
        have lt_q : ∀ k, (Ft p_q u_q) k → k < w11.heap.size := fun k hk => (h_q.ft hk).2
        skip
        have lt_p : ∀ k, (Ft p_p u_p) k → k < w11.heap.size := fun k hk => (h_p.ft hk).2
        have q_x := v_x.cells
        have l_x := v_x.lt
        have q_t := v_t.cells
        have l_t := v_t.lt
        clear h_q lt_q sb_q D_q_x D_q_t D_p_q
        (try dsimp only)
        go_wp2_with fail
        clear q_x l_x q_t l_t
        have lq_x := v_x.lt
        have lq_t := v_t.lt
        refine (getBlock_any h_p).mono ?_
        rintro e w12 ⟨rfl, st⟩
        rw [HK.out] at st; obtain ⟨hh, tt⟩ := st; rw [HK.out]
        replace v_x := v_x.trn tt D_p_x
        replace v_t := v_t.trn tt D_p_t
        replace D_p_x : DJ (Ft p_p u_p) (· = w3.heap.size) := D_p_x.step tt (fun k hk => by subst hk; exact lq_x)
        replace D_p_t : DJ (Ft p_p u_p) (· = w6.heap.size) := D_p_t.step tt (fun k hk => by subst hk; exact lq_t)
        clear h_p
        have h_p := hh
        replace bw := bw.trans (tt.bel.mono sb_p)
        replace sz := bw.size
        clear hh tt lq_x lq_t
        clear lt_p
        have lt_p : ∀ k, (Ft p_p u_p) k → k < w12.heap.size := fun k hk => (h_p.ft hk).2
        have q_x := v_x.cells
        have l_x := v_x.lt
        have q_t := v_t.cells
        have l_t := v_t.lt
        have d_x_k := v_x.lt
        have d_t_k := v_t.lt
        (try dsimp only)
        go_wp2_with fail
        refine at_world (F := fun w' => Var w' (w3.heap.size) #[.slice X1 0 e1, .slice X2 0 e2] 76 ∧ Var w' (w6.heap.size) #[.int .i64 z0, .int .i64 z1, .int .i64 z2, .bool z3] 54 ∧ Var w' (w12.heap.size) #[.int .i64 0, .int .i64 0, .int .i64 0] 25 ∧ RdrAt w' w10.heap.size p_p u_p b s3 ∧ w12.heap.size ≤ w'.heap.size ∧ Below w.heap.size w w') ⟨(v_x).alloc _, (v_t).alloc _, Var.newE _ _ _ rfl, h_p.below (by go_grown), by go_size, by go_grown⟩ ?_
        clear q_x l_x v_x q_t l_t v_t h_p bw sz
        rintro w13 ⟨v_x, v_t, v_k, h_p, szn, bw⟩
        have sz := bw.size
        have D_p_k : DJ (Ft p_p u_p) (· = w12.heap.size) := DJ.fresh lt_p (N := w12.heap.size) (fun k hk => by subst hk; omega)
        clear lt_p
        have lt_p : ∀ k, (Ft p_p u_p) k → k < w13.heap.size := fun k hk => (h_p.ft hk).2
        clear szn
        have lq_x := v_x.lt
        have lq_t := v_t.lt
        have lq_k := v_k.lt
        refine (new_any w13 _ (Nat.le_refl _)).mono ?_
        rintro e w14 ⟨p_d, u_d, rfl, h_d, hb, hf⟩
        replace v_x := v_x.below hb v_x.lt
        replace v_t := v_t.below hb v_t.lt
        replace v_k := v_k.below hb v_k.lt
        replace h_p := h_p.below hb
        have D_d_x : DJ (Ft p_d u_d) (· = w3.heap.size) := (DJ.fresh (N := w13.heap.size) (fun k hk => by subst hk; exact lq_x) hf).symm
        have D_d_t : DJ (Ft p_d u_d) (· = w6.heap.size) := (DJ.fresh (N := w13.heap.size) (fun k hk => by subst hk; exact lq_t) hf).symm
        have D_d_k : DJ (Ft p_d u_d) (· = w12.heap.size) := (DJ.fresh (N := w13.heap.size) (fun k hk => by subst hk; exact lq_k) hf).symm
        have D_d_p : DJ (Ft p_d u_d) (Ft p_p u_p) := (DJ.fresh lt_p (N := w13.heap.size) hf).symm
        have sb_d : w.heap.size ≤ w13.heap.size := sz
        replace bw := bw.trans (hb.mono bw.size)
        replace sz := bw.size
        clear hb hf lq_x lq_t lq_k
        clear lt_p
        have lt_p : ∀ k, (Ft p_p u_p) k → k < w14.heap.size := fun k hk => (h_p.ft hk).2
        skip
        have lt_d : ∀ k, (Ft p_d u_d) k → k < w14.heap.size := fun k hk => (h_d.ft hk).2
        have q_x := v_x.cells
        have l_x := v_x.lt
        have q_t := v_t.cells
        have l_t := v_t.lt
        have q_k := v_k.cells
        have l_k := v_k.lt
        (try dsimp only)
        go_wp2_with fail
        clear q_x l_x q_t l_t q_k l_k
        have lq_x := v_x.lt
        have lq_t := v_t.lt
        have lq_k := v_k.lt
        refine (putBlock_any h_d ⟨0, 0, 0⟩ (by simp)).mono ?_
        rintro e w15 ⟨rfl, u15_d, hh, tt⟩
        replace v_x := v_x.trn tt D_d_x
        replace v_t := v_t.trn tt D_d_t
        replace v_k := v_k.trn tt D_d_k
        replace h_p := h_p.besideD tt D_d_p
        replace D_d_x : DJ (Ft p_d u15_d) (· = w3.heap.size) := D_d_x.step tt (fun k hk => by subst hk; exact lq_x)
        replace D_d_t : DJ (Ft p_d u15_d) (· = w6.heap.size) := D_d_t.step tt (fun k hk => by subst hk; exact lq_t)
        replace D_d_k : DJ (Ft p_d u15_d) (· = w12.heap.size) := D_d_k.step tt (fun k hk => by subst hk; exact lq_k)
        replace D_d_p : DJ (Ft p_d u15_d) (Ft p_p u_p) := D_d_p.step tt lt_p
        clear h_d
        have h_d := hh
        replace bw := bw.trans (tt.bel.mono sb_d)
        replace sz := bw.size
        clear hh tt lq_x lq_t lq_k
        clear lt_p
        have lt_p : ∀ k, (Ft p_p u_p) k → k < w15.heap.size := fun k hk => (h_p.ft hk).2
        clear lt_d
        have lt_d : ∀ k, (Ft p_d u15_d) k → k < w15.heap.size := fun k hk => (h_d.ft hk).2
        have q_x := v_x.cells
        have l_x := v_x.lt
        have q_t := v_t.cells
        have l_t := v_t.lt
        have q_k := v_k.cells
        have l_k := v_k.lt
        (try dsimp only)
        go_wp2_with fail
        clear q_x l_x q_t l_t q_k l_k
        refine (wdone_any h_d (by omega)).mono ?_
        rintro e w16 ⟨A3, c3, rfl, hA3, hb⟩
        replace v_x := v_x.below hb v_x.lt
        replace v_t := v_t.below hb v_t.lt
        replace v_k := v_k.below hb v_k.lt
        replace h_p := h_p.below hb
        replace h_d := h_d.below hb
        replace bw := bw.trans (hb.mono bw.size)
        replace sz := bw.size
        clear hb
        clear lt_p
        have lt_p : ∀ k, (Ft p_p u_p) k → k < w16.heap.size := fun k hk => (h_p.ft hk).2
        clear lt_d
        have lt_d : ∀ k, (Ft p_d u15_d) k → k < w16.heap.size := fun k hk => (h_d.ft hk).2
        have q_x := v_x.cells
        have l_x := v_x.lt
        have q_t := v_t.cells
        have l_t := v_t.lt
        have q_k := v_k.cells
        have l_k := v_k.lt
        clear h_d lt_d sb_d D_d_x D_d_t D_d_k D_d_p
        (try dsimp only)
        go_wp2_with fail
        clear q_x l_x q_t l_t q_k l_k
        refine (err_any h_p).mono ?_
        rintro e wq ⟨rfl, rfl⟩
        have q_x := v_x.cells
        have l_x := v_x.lt
        have q_t := v_t.cells
        have l_t := v_t.lt
        have q_k := v_k.cells
        have l_k := v_k.lt
        (try dsimp only)
        go_wp2_with fail
        clear q_x l_x q_t l_t q_k l_k
        refine (alive_any _).mono ?_
        rintro e w17 ⟨rfl, hb⟩
        replace v_x := v_x.below hb v_x.lt
        replace v_t := v_t.below hb v_t.lt
        replace v_k := v_k.below hb v_k.lt
        replace h_p := h_p.below hb
        replace bw := bw.trans (hb.mono bw.size)
        replace sz := bw.size
        clear hb
        clear lt_p
        have lt_p : ∀ k, (Ft p_p u_p) k → k < w17.heap.size := fun k hk => (h_p.ft hk).2
        have q_x := v_x.cells
        have l_x := v_x.lt
        have q_t := v_t.cells
        have l_t := v_t.lt
        have q_k := v_k.cells
        have l_k := v_k.lt
        go_wp2
        go_ret
        exact ⟨rfl, bw⟩
    · have i1 : (s2.err == 0) = false := by simpa using h2
      have i2 : (s2.err != 0) = true := by simpa using h2
      have hz := ht2 h2
      injection hz with hz0 hz
      injection hz with hz1 hz2 hz3
      subst hz0 hz1 hz2 hz3
      have hpt : (Oct.putTable ⟨[], 0⟩ 0 ⟨0, 0, false⟩).b.length ≤ 1000 := by have := Oct.putTable_len ⟨[], 0⟩ 0 ⟨0, 0, false⟩; simp at this; omega
      clear h2 ht1 ht2
      by_cases h3 : s3.err = 0
      · have j1 : (s3.err == 0) = true := by simpa using h3
        have j2 : (s3.err != 0) = false := by simpa using h3
        clear h3 hk3
        go_enter Try.func8, Try.ntmps8
        (try dsimp only)
        go_wp2_with fail
        refine at_world (F := fun w' => Below w.heap.size w w') (by go_grown) ?_
        rintro w1 bw
        have sz := bw.size
        refine (read_any w1 _ (Nat.le_refl _) A c _ b rfl ((HR.out.below bw).more bw.size) hb6).mono ?_
        rintro e w2 ⟨p_r, u_r, rfl, h_r, hb, hf⟩
        have sb_r : w.heap.size ≤ w1.heap.size := sz
        replace bw := bw.trans (hb.mono bw.size)
        replace sz := bw.size
        clear hb hf
        skip
        have lt_r : ∀ k, (Ft p_r u_r) k → k < w2.heap.size := fun k hk => (h_r.ft hk).2
        (try dsimp only)
        go_wp2_with fail
        refine (getFunc_any h_r).mono ?_
        rintro e w3 ⟨X1, e1, X2, e2, rfl, L1, L2, st⟩
        rw [HY.out] at st L1 L2; obtain ⟨hh, tt⟩ := st; rw [HY.out]; have R_x1 := L1.rd; have R_x2 := L2.rd; clear L1 L2; dsimp only at R_x1 R_x2
        clear h_r
        have h_r := hh
        replace bw := bw.trans (tt.bel.mono sb_r)
        replace sz := bw.size
        clear hh tt
        clear lt_r
        have lt_r : ∀ k, (Ft p_r u_r) k → k < w3.heap.size := fun k hk => (h_r.ft hk).2
        clear R_x1 R_x2
        (try dsimp only)
        go_wp2_with fail
        refine at_world (F := fun w' => Var w' (w3.heap.size) #[.slice X1 0 e1, .slice X2 0 e2] 76 ∧ RdrAt w' w1.heap.size p_r u_r b s1 ∧ w3.heap.size ≤ w'.heap.size ∧ Below w.heap.size w w') ⟨Var.newE _ _ _ rfl, h_r.below (by go_grown), by go_size, by go_grown⟩ ?_
        clear  h_r bw sz
        rintro w4 ⟨v_x, h_r, szn, bw⟩
        have sz := bw.size
        have D_r_x : DJ (Ft p_r u_r) (· = w3.heap.size) := DJ.fresh lt_r (N := w3.heap.size) (fun k hk => by subst hk; omega)
        clear lt_r
        have lt_r : ∀ k, (Ft p_r u_r) k → k < w4.heap.size := fun k hk => (h_r.ft hk).2
        clear szn
        refine (err_any h_r).mono ?_
        rintro e wq ⟨rfl, rfl⟩
        have q_x := v_x.cells
        have l_x := v_x.lt
        (try dsimp only)
        go_wp2_with fail
        clear q_x l_x
        refine (err_any h_r).mono ?_
        rintro e wq ⟨rfl, rfl⟩
        have q_x := v_x.cells
        have l_x := v_x.lt
        (try dsimp only)
        go_wp2_with fail
        clear q_x l_x
        have lq_x := v_x.lt
        refine (read_any w4 _ (Nat.le_refl _) A c _ b rfl ((HR.out.below bw).more bw.size) hb6).mono ?_
        rintro e w5 ⟨p_q, u_q, rfl, h_q, hb, hf⟩
        replace v_x := v_x.below hb v_x.lt
        replace h_r := h_r.below hb
        have D_q_x : DJ (Ft p_q u_q) (· = w3.heap.size) := (DJ.fresh (N := w4.heap.size) (fun k hk => by subst hk; exact lq_x) hf).symm
        have D_q_r : DJ (Ft p_q u_q) (Ft p_r u_r) := (DJ.fresh lt_r (N := w4.heap.size) hf).symm
        have sb_q : w.heap.size ≤ w4.heap.size := sz
        replace bw := bw.trans (hb.mono bw.size)
        replace sz := bw.size
        clear hb hf lq_x
        clear lt_r
        have lt_r : ∀ k, (Ft p_r u_r) k → k < w5.heap.size := fun k hk => (h_r.ft hk).2
        skip
        have lt_q : ∀ k, (Ft p_q u_q) k → k < w5.heap.size := fun k hk => (h_q.ft hk).2
        have q_x := v_x.cells
        have l_x := v_x.lt
        clear h_r lt_r sb_r D_r_x D_q_r
        (try dsimp only)
        go_wp2_with fail
        clear q_x l_x
        have lq_x := v_x.lt
        refine (getTable_any h_q).mono ?_
        rintro e w6 ⟨rfl, st⟩
        rw [HZ.out] at st; obtain ⟨hh, tt⟩ := st; rw [HZ.out]
        replace v_x := v_x.trn tt D_q_x
        replace D_q_x : DJ (Ft p_q u_q) (· = w3.heap.size) := D_q_x.step tt (fun k hk => by subst hk; exact lq_x)
        clear h_q
        have h_q := hh
        replace bw := bw.trans (tt.bel.mono sb_q)
        replace sz := bw.size
        clear hh tt lq_x
        clear lt_q
        have lt_q : ∀ k, (Ft p_q u_q) k → k < w6.heap.size := fun k hk => (h_q.ft hk).2
        have q_x := v_x.cells
        have l_x := v_x.lt
        have d_x_t := v_x.lt
        (try dsimp only)
        go_wp2_with fail
        refine at_world (F := fun w' => Var w' (w3.heap.size) #[.slice X1 0 e1, .slice X2 0 e2] 76 ∧ Var w' (w6.heap.size) #[.int .i64 0, .int .i64 0, .int .i64 0, .bool false] 54 ∧ RdrAt w' w4.heap.size p_q u_q b s2 ∧ w6.heap.size ≤ w'.heap.size ∧ Below w.heap.size w w') ⟨(v_x).alloc _, Var.newE _ _ _ rfl, h_q.below (by go_grown), by go_size, by go_grown⟩ ?_
        clear q_x l_x v_x h_q bw sz
        rintro w7 ⟨v_x, v_t, h_q, szn, bw⟩
        have sz := bw.size
        have D_q_t : DJ (Ft p_q u_q) (· = w6.heap.size) := DJ.fresh lt_q (N := w6.heap.size) (fun k hk => by subst hk; omega)
        clear lt_q
        have lt_q : ∀ k, (Ft p_q u_q) k → k < w7.heap.size := fun k hk => (h_q.ft hk).2
        clear szn
        have lq_x := v_x.lt
        have lq_t := v_t.lt
        refine (new_any w7 _ (Nat.le_refl _)).mono ?_
        rintro e w8 ⟨p_a, u_a, rfl, h_a, hb, hf⟩
        replace v_x := v_x.below hb v_x.lt
        replace v_t := v_t.below hb v_t.lt
        replace h_q := h_q.below hb
        have D_a_x : DJ (Ft p_a u_a) (· = w3.heap.size) := (DJ.fresh (N := w7.heap.size) (fun k hk => by subst hk; exact lq_x) hf).symm
        have D_a_t : DJ (Ft p_a u_a) (· = w6.heap.size) := (DJ.fresh (N := w7.heap.size) (fun k hk => by subst hk; exact lq_t) hf).symm
        have D_a_q : DJ (Ft p_a u_a) (Ft p_q u_q) := (DJ.fresh lt_q (N := w7.heap.size) hf).symm
        have sb_a : w.heap.size ≤ w7.heap.size := sz
        replace bw := bw.trans (hb.mono bw.size)
        replace sz := bw.size
        clear hb hf lq_x lq_t
        clear lt_q
        have lt_q : ∀ k, (Ft p_q u_q) k → k < w8.heap.size := fun k hk => (h_q.ft hk).2
        skip
        have lt_a : ∀ k, (Ft p_a u_a) k → k < w8.heap.size := fun k hk => (h_a.ft hk).2
        have q_x := v_x.cells
        have l_x := v_x.lt
        have q_t := v_t.cells
        have l_t := v_t.lt
        (try dsimp only)
        go_wp2_with fail
        clear q_x l_x q_t l_t
        have lq_x := v_x.lt
        have lq_t := v_t.lt
        refine (putTable_any h_a 0 ⟨0, 0, false⟩ (by simp)).mono ?_
        rintro e w9 ⟨rfl, u9_a, hh, tt⟩
        replace v_x := v_x.trn tt D_a_x
        replace v_t := v_t.trn tt D_a_t
        replace h_q := h_q.besideD tt D_a_q
        replace D_a_x : DJ (Ft p_a u9_a) (· = w3.heap.size) := D_a_x.step tt (fun k hk => by subst hk; exact lq_x)
        replace D_a_t : DJ (Ft p_a u9_a) (· = w6.heap.size) := D_a_t.step tt (fun k hk => by subst hk; exact lq_t)
        replace D_a_q : DJ (Ft p_a u9_a) (Ft p_q u_q) := D_a_q.step tt lt_q
        clear h_a
        have h_a := hh
        replace bw := bw.trans (tt.bel.mono sb_a)
        replace sz := bw.size
        clear hh tt lq_x lq_t
        clear lt_q
        have lt_q : ∀ k, (Ft p_q u_q) k → k < w9.heap.size := fun k hk => (h_q.ft hk).2
        clear lt_a
        have lt_a : ∀ k, (Ft p_a u9_a) k → k < w9.heap.size := fun k hk => (h_a.ft hk).2
        have q_x := v_x.cells
        have l_x := v_x.lt
        have q_t := v_t.cells
        have l_t := v_t.lt
        (try dsimp only)
        go_wp2_with fail
        clear q_x l_x q_t l_t
        refine (wdone_any h_a (by omega)).mono ?_
        rintro e w10 ⟨A2, c2, rfl, hA2, hb⟩
        replace v_x := v_x.below hb v_x.lt
        replace v_t := v_t.below hb v_t.lt
        replace h_q := h_q.below hb
        replace h_a := h_a.below hb
        replace bw := bw.trans (hb.mono bw.size)
        replace sz := bw.size
        clear hb
        clear lt_q
        have lt_q : ∀ k, (Ft p_q u_q) k → k < w10.heap.size := fun k hk => (h_q.ft hk).2
        clear lt_a
        have lt_a : ∀ k, (Ft p_a u9_a) k → k < w10.heap.size := fun k hk => (h_a.ft hk).2
        have q_x := v_x.cells
        have l_x := v_x.lt
        have q_t := v_t.cells
        have l_t := v_t.lt
        clear h_a lt_a sb_a D_a_x D_a_t D_a_q
        (try dsimp only)
        go_wp2_with fail
        clear q_x l_x q_t l_t
        refine (err_any h_q).mono ?_
        rintro e wq ⟨rfl, rfl⟩
        have q_x := v_x.cells
        have l_x := v_x.lt
        have q_t := v_t.cells
        have l_t := v_t.lt
        (try dsimp only)
        go_wp2_with fail
        clear q_x l_x q_t l_t
        refine (err_any h_q).mono ?_
        rintro e wq ⟨rfl, rfl⟩
        have q_x := v_x.cells
        have l_x := v_x.lt
        have q_t := v_t.cells
        have l_t := v_t.lt
        (try dsimp only)
        go_wp2_with fail
        clear q_x l_x q_t l_t
        have lq_x := v_x.lt
        have lq_t := v_t.lt
        refine (read_any w10 _ (Nat.le_refl _) A c _ b rfl ((HR.out.below bw).more bw.size) hb6).mono ?_
        rintro e w11 ⟨p_p, u_p, rfl, h_p, hb, hf⟩
        replace v_x := v_x.below hb v_x.lt
        replace v_t := v_t.below hb v_t.lt
        replace h_q := h_q.below hb
        have D_p_x : DJ (Ft p_p u_p) (· = w3.heap.size) := (DJ.fresh (N := w10.heap.size) (fun k hk => by subst hk; exact lq_x) hf).symm
        have D_p_t : DJ (Ft p_p u_p) (· = w6.heap.size) := (DJ.fresh (N := w10.heap.size) (fun k hk => by subst hk; exact lq_t) hf).symm
        have D_p_q : DJ (Ft p_p u_p) (Ft p_q u_q) := (DJ.fresh lt_q (N := w10.heap.size) hf).symm
        have sb_p : w.heap.size ≤ w10.heap.size := sz
        replace bw := bw.trans (hb.mono bw.size)
        replace sz := bw.size
        clear hb hf lq_x lq_t
        clear lt_q
        have lt_q : ∀ k, (Ft p_q u_q) k → k < w11.heap.size := fun k hk => (h_q.ft hk).2
        skip
        have lt_p : ∀ k, (Ft p_p u_p) k → k < w11.heap.size := fun k hk => (h_p.ft hk).2
        have q_x := v_x.cells
        have l_x := v_x.lt
        have q_t := v_t.cells
        have l_t := v_t.lt
        clear h_q lt_q sb_q D_q_x D_q_t D_p_q
        (try dsimp only)
        go_wp2_with fail
        clear q_x l_x q_t l_t
        have lq_x := v_x.lt
        have lq_t := v_t.lt
        refine (getBlock_any h_p).mono ?_
        rintro e w12 ⟨rfl, st⟩
        rw [HK.out] at st; obtain ⟨hh, tt⟩ := st; rw [HK.out]
        replace v_x := v_x.trn tt D_p_x
        replace v_t := v_t.trn tt D_p_t
        replace D_p_x : DJ (Ft p_p u_p) (· = w3.heap.size) := D_p_x.step tt (fun k hk => by subst hk; exact lq_x)
        replace D_p_t : DJ (Ft p_p u_p) (· = w6.heap.size) := D_p_t.step tt (fun k hk => by subst hk; exact lq_t)
        clear h_p
        have h_p := hh
        replace bw := bw.trans (tt.bel.mono sb_p)
        replace sz := bw.size
        clear hh tt lq_x lq_t
        clear lt_p
        have lt_p : ∀ k, (Ft p_p u_p) k → k < w12.heap.size := fun k hk => (h_p.ft hk).2
        have q_x := v_x.cells
        have l_x := v_x.lt
        have q_t := v_t.cells
        have l_t := v_t.lt
        have d_x_k := v_x.lt
        have d_t_k := v_t.lt
        (try dsimp only)
        go_wp2_with fail
        refine at_world (F := fun w' => Var w' (w3.heap.size) #[.slice X1 0 e1, .slice X2 0 e2] 76 ∧ Var w' (w6.heap.size) #[.int .i64 0, .int .i64 0, .int .i64 0, .bool false] 54 ∧ Var w' (w12.heap.size) #[.int .i64 k1, .int .i64 k2, .int .i64 k3] 25 ∧ RdrAt w' w10.heap.size p_p u_p b s3 ∧ w12.heap.size ≤ w'.heap.size ∧ Below w.heap.size w w') ⟨(v_x).alloc _, (v_t).alloc _, Var.newE _ _ _ rfl, h_p.below (by go_grown), by go_size, by go_grown⟩ ?_
        clear q_x l_x v_x q_t l_t v_t h_p bw sz
        rintro w13 ⟨v_x, v_t, v_k, h_p, szn, bw⟩
        have sz := bw.size
        have D_p_k : DJ (Ft p_p u_p) (· = w12.heap.size) := DJ.fresh lt_p (N := w12.heap.size) (fun k hk => by subst hk; omega)
        clear lt_p
        have lt_p : ∀ k, (Ft p_p u_p) k → k < w13.heap.size := fun k hk => (h_p.ft hk).2
        clear szn
        have lq_x := v_x.lt
        have lq_t := v_t.lt
        have lq_k := v_k.lt
        refine (new_any w13 _ (Nat.le_refl _)).mono ?_
        rintro e w14 ⟨p_d, u_d, rfl, h_d, hb, hf⟩
        replace v_x := v_x.below hb v_x.lt
        replace v_t := v_t.below hb v_t.lt
        replace v_k := v_k.below hb v_k.lt
        replace h_p := h_p.below hb
        have D_d_x : DJ (Ft p_d u_d) (· = w3.heap.size) := (DJ.fresh (N := w13.heap.size) (fun k hk => by subst hk; exact lq_x) hf).symm
        have D_d_t : DJ (Ft p_d u_d) (· = w6.heap.size) := (DJ.fresh (N := w13.heap.size) (fun k hk => by subst hk; exact lq_t) hf).symm
        have D_d_k : DJ (Ft p_d u_d) (· = w12.heap.size) := (DJ.fresh (N := w13.heap.size) (fun k hk => by subst hk; exact lq_k) hf).symm
        have D_d_p : DJ (Ft p_d u_d) (Ft p_p u_p) := (DJ.fresh lt_p (N := w13.heap.size) hf).symm
        have sb_d : w.heap.size ≤ w13.heap.size := sz
        replace bw := bw.trans (hb.mono bw.size)
        replace sz := bw.size
        clear hb hf lq_x lq_t lq_k
        clear lt_p
        have lt_p : ∀ k, (Ft p_p u_p) k → k < w14.heap.size := fun k hk => (h_p.ft hk).2
        skip
        have lt_d : ∀ k, (Ft p_d u_d) k → k < w14.heap.size := fun k hk => (h_d.ft hk).2
        have q_x := v_x.cells
        have l_x := v_x.lt
        have q_t := v_t.cells
        have l_t := v_t.lt
        have q_k := v_k.cells
        have l_k := v_k.lt
        (try dsimp only)
        go_wp2_with fail
        clear q_x l_x q_t l_t q_k l_k
        have lq_x := v_x.lt
        have lq_t := v_t.lt
        have lq_k := v_k.lt
        refine (putBlock_any h_d ⟨k1, k2, k3⟩ (by simp)).mono ?_
        rintro e w15 ⟨rfl, u15_d, hh, tt⟩
        replace v_x := v_x.trn tt D_d_x
        replace v_t := v_t.trn tt D_d_t
        replace v_k := v_k.trn tt D_d_k
        replace h_p := h_p.besideD tt D_d_p
        replace D_d_x : DJ (Ft p_d u15_d) (· = w3.heap.size) := D_d_x.step tt (fun k hk => by subst hk; exact lq_x)
        replace D_d_t : DJ (Ft p_d u15_d) (· = w6.heap.size) := D_d_t.step tt (fun k hk => by subst hk; exact lq_t)
        replace D_d_k : DJ (Ft p_d u15_d) (· = w12.heap.size) := D_d_k.step tt (fun k hk => by subst hk; exact lq_k)
        replace D_d_p : DJ (Ft p_d u15_d) (Ft p_p u_p) := D_d_p.step tt lt_p
        clear h_d
        have h_d := hh
        replace bw := bw.trans (tt.bel.mono sb_d)
        replace sz := bw.size
        clear hh tt lq_x lq_t lq_k
        clear lt_p
        have lt_p : ∀ k, (Ft p_p u_p) k → k < w15.heap.size := fun k hk => (h_p.ft hk).2
        clear lt_d
        have lt_d : ∀ k, (Ft p_d u15_d) k → k < w15.heap.size := fun k hk => (h_d.ft hk).2
        have q_x := v_x.cells
        have l_x := v_x.lt
        have q_t := v_t.cells
        have l_t := v_t.lt
        have q_k := v_k.cells
        have l_k := v_k.lt
        (try dsimp only)
        go_wp2_with fail
        clear q_x l_x q_t l_t q_k l_k
        refine (wdone_any h_d (by omega)).mono ?_
        rintro e w16 ⟨A3, c3, rfl, hA3, hb⟩
        replace v_x := v_x.below hb v_x.lt
        replace v_t := v_t.below hb v_t.lt
        replace v_k := v_k.below hb v_k.lt
        replace h_p := h_p.below hb
        replace h_d := h_d.below hb
        replace bw := bw.trans (hb.mono bw.size)
        replace sz := bw.size
        clear hb
        clear lt_p
        have lt_p : ∀ k, (Ft p_p u_p) k → k < w16.heap.size := fun k hk => (h_p.ft hk).2
        clear lt_d
        have lt_d : ∀ k, (Ft p_d u15_d) k → k < w16.heap.size := fun k hk => (h_d.ft hk).2
        have q_x := v_x.cells
        have l_x := v_x.lt
        have q_t := v_t.cells
        have l_t := v_t.lt
        have q_k := v_k.cells
        have l_k := v_k.lt
        clear h_d lt_d sb_d D_d_x D_d_t D_d_k D_d_p
        (try dsimp only)
        go_wp2_with fail
        clear q_x l_x q_t l_t q_k l_k
        refine (err_any h_p).mono ?_
        rintro e wq ⟨rfl, rfl⟩
        have q_x := v_x.cells
        have l_x := v_x.lt
        have q_t := v_t.cells
        have l_t := v_t.lt
        have q_k := v_k.cells
        have l_k := v_k.lt
        (try dsimp only)
        go_wp2_with fail
        clear q_x l_x q_t l_t q_k l_k
        refine (alive_any _).mono ?_
        rintro e w17 ⟨rfl, hb⟩
        replace v_x := v_x.below hb v_x.lt
        replace v_t := v_t.below hb v_t.lt
        replace v_k := v_k.below hb v_k.lt
        replace h_p := h_p.below hb
        replace bw := bw.trans (hb.mono bw.size)
        replace sz := bw.size
        clear hb
        clear lt_p
        have lt_p : ∀ k, (Ft p_p u_p) k → k < w17.heap.size := fun k hk => (h_p.ft hk).2
        have q_x := v_x.cells
        have l_x := v_x.lt
        have q_t := v_t.cells
        have l_t := v_t.lt
        have q_k := v_k.cells
        have l_k := v_k.lt
        go_wp2
        go_ret
        exact ⟨rfl, bw⟩
      · have j1 : (s3.err == 0) = false := by simpa using h3
        have j2 : (s3.err != 0) = true := by simpa using h3
        have hz : (⟨k1, k2, k3⟩ : Oct.Blk) = ⟨0, 0, 0⟩ := hk3.resolve_left h3
        injection hz with hz1 hz2 hz3
        subst hz1 hz2 hz3
        clear h3 hk3
        go_enter Try.func8, Try.ntmps8
        (try dsimp only)
        go_wp2_with fail
        refine at_world (F := fun w' => Below w.heap.size w w') (by go_grown) ?_
        rintro w1 bw
        have sz := bw.size
        refine (read_any w1 _ (Nat.le_refl _) A c _ b rfl ((HR.out.below bw).more bw.size) hb6).mono ?_
        rintro e w2 ⟨p_r, u_r, rfl, h_r, hb, hf⟩
        have sb_r : w.heap.size ≤ w1.heap.size := sz
        replace bw := bw.trans (hb.mono bw.size)
        replace sz := bw.size
        clear hb hf
        skip
        have lt_r : ∀ k, (Ft p_r u_r) k → k < w2.heap.size := fun k hk => (h_r.ft hk).2
        (try dsimp only)
        go_wp2_with fail
        refine (getFunc_any h_r).mono ?_
        rintro e w3 ⟨X1, e1, X2, e2, rfl, L1, L2, st⟩
        rw [HY.out] at st L1 L2; obtain ⟨hh, tt⟩ := st; rw [HY.out]; have R_x1 := L1.rd; have R_x2 := L2.rd; clear L1 L2; dsimp only at R_x1 R_x2
        clear h_r
        have h_r := hh
        replace bw := bw.trans (tt.bel.mono sb_r)
        replace sz := bw.size
        clear hh tt
        clear lt_r
        have lt_r : ∀ k, (Ft p_r u_r) k → k < w3.heap.size := fun k hk => (h_r.ft hk).2
        clear R_x1 R_x2
        (try dsimp only)
        go_wp2_with fail
        refine at_world (F := fun w' => Var w' (w3.heap.size) #[.slice X1 0 e1, .slice X2 0 e2] 76 ∧ RdrAt w' w1.heap.size p_r u_r b s1 ∧ w3.heap.size ≤ w'.heap.size ∧ Below w.heap.size w w') ⟨Var.newE _ _ _ rfl, h_r.below (by go_grown), by go_size, by go_grown⟩ ?_
        clear  h_r bw sz
        rintro w4 ⟨v_x, h_r, szn, bw⟩
        have sz := bw.size
        have D_r_x : DJ (Ft p_r u_r) (· = w3.heap.size) := DJ.fresh lt_r (N := w3.heap.size) (fun k hk => by subst hk; omega)
        clear lt_r
        have lt_r : ∀ k, (Ft p_r u_r) k → k < w4.heap.size := fun k hk => (h_r.ft hk).2
        clear szn
        refine (err_any h_r).mono ?_
        rintro e wq ⟨rfl, rfl⟩
        have q_x := v_x.cells
        have l_x := v_x.lt
        (try dsimp only)
        go_wp2_with fail
        clear q_x l_x
        refine (err_any h_r).mono ?_
        rintro e wq ⟨rfl, rfl⟩
        have q_x := v_x.cells
        have l_x := v_x.lt
        (try dsimp only)
        go_wp2_with fail
        clear q_x l_x
        have lq_x := v_x.lt
        refine (read_any w4 _ (Nat.le_refl _) A c _ b rfl ((HR.out.below bw).more bw.size) hb6).mono ?_
        rintro e w5 ⟨p_q, u_q, rfl, h_q, hb, hf⟩
        replace v_x := v_x.below hb v_x.lt
        replace h_r := h_r.below hb
        have D_q_x : DJ (Ft p_q u_q) (· = w3.heap.size) := (DJ.fresh (N := w4.heap.size) (fun k hk => by subst hk; exact lq_x) hf).symm
        have D_q_r : DJ (Ft p_q u_q) (Ft p_r u_r) := (DJ.fresh lt_r (N := w4.heap.size) hf).symm
        have sb_q : w.heap.size ≤ w4.heap.size := sz
        replace bw := bw.trans (hb.mono bw.size)
        replace sz := bw.size
        clear hb hf lq_x
        clear lt_r
        have lt_r : ∀ k, (Ft p_r u_r) k → k < w5.heap.size := fun k hk => (h_r.ft hk).2
        skip
        have lt_q : ∀ k, (Ft p_q u_q) k → k < w5.heap.size := fun k hk => (h_q.ft hk).2
        have q_x := v_x.cells
        have l_x := v_x.lt
        clear h_r lt_r sb_r D_r_x D_q_r
        (try dsimp only)
        go_wp2_with fail
        clear q_x l_x
        have lq_x := v_x.lt
        refine (getTable_any h_q).mono ?_
        rintro e w6 ⟨rfl, st⟩
        rw [HZ.out] at st; obtain ⟨hh, tt⟩ := st; rw [HZ.out]
        replace v_x := v_x.trn tt D_q_x
        replace D_q_x : DJ (Ft p_q u_q) (· = w3.heap.size) := D_q_x.step tt (fun k hk => by subst hk; exact lq_x)
        clear h_q
        have h_q := hh
        replace bw := bw.trans (tt.bel.mono sb_q)
        replace sz := bw.size
        clear hh tt lq_x
        clear lt_q
        have lt_q : ∀ k, (Ft p_q u_q) k → k < w6.heap.size := fun k hk => (h_q.ft hk).2
        have q_x := v_x.cells
        have l_x := v_x.lt
        have d_x_t := v_x.lt
        (try dsimp only)
        go_wp2_with fail
        refine at_world (F := fun w' => Var w' (w3.heap.size) #[.slice X1 0 e1, .slice X2 0 e2] 76 ∧ Var w' (w6.heap.size) #[.int .i64 0, .int .i64 0, .int .i64 0, .bool false] 54 ∧ RdrAt w' w4.heap.size p_q u_q b s2 ∧ w6.heap.size ≤ w'.heap.size ∧ Below w.heap.size w w') ⟨(v_x).alloc _, Var.newE _ _ _ rfl, h_q.below (by go_grown), by go_size, by go_grown⟩ ?_
        clear q_x l_x v_x h_q bw sz
        rintro w7 ⟨v_x, v_t, h_q, szn, bw⟩
        have sz := bw.size
        have D_q_t : DJ (Ft p_q u_q) (· = w6.heap.size) := DJ.fresh lt_q (N := w6.heap.size) (fun k hk => by subst hk; omega)
        clear lt_q
        have lt_q : ∀ k, (Ft p_q u_q) k → k < w7.heap.size := fun k hk => (h_q.ft hk).2
        clear szn
        have lq_x := v_x.lt
        have lq_t := v_t.lt
        refine (new_any w7 _ (Nat.le_refl _)).mono ?_
        rintro e w8 ⟨p_a, u_a, rfl, h_a, hb, hf⟩
        replace v_x := v_x.below hb v_x.lt
        replace v_t := v_t.below hb v_t.lt
        replace h_q := h_q.below hb
        have D_a_x : DJ (Ft p_a u_a) (· = w3.heap.size) := (DJ.fresh (N := w7.heap.size) (fun k hk => by subst hk; exact lq_x) hf).symm
        have D_a_t : DJ (Ft p_a u_a) (· = w6.heap.size) := (DJ.fresh (N := w7.heap.size) (fun k hk => by subst hk; exact lq_t) hf).symm
        have D_a_q : DJ (Ft p_a u_a) (Ft p_q u_q) := (DJ.fresh lt_q (N := w7.heap.size) hf).symm
        have sb_a : w.heap.size ≤ w7.heap.size := sz
        replace bw := bw.trans (hb.mono bw.size)
        replace sz := bw.size
        clear hb hf lq_x lq_t
        clear lt_q
        have lt_q : ∀ k, (Ft p_q u_q) k → k < w8.heap.size := fun k hk => (h_q.ft hk).2
        skip
        have lt_a : ∀ k, (Ft p_a u_a) k → k < w8.heap.size := fun k hk => (h_a.ft hk).2
        have q_x := v_x.cells
        have l_x := v_x.lt
        have q_t := v_t.cells
        have l_t := v_t.lt
        (try dsimp only)
        go_wp2_with fail
        clear q_x l_x q_t l_t
        have lq_x := v_x.lt
        have lq_t := v_t.lt
        refine (putTable_any h_a 0 ⟨0, 0, false⟩ (by simp)).mono ?_
        rintro e w9 ⟨rfl, u9_a, hh, tt⟩
        replace v_x := v_x.trn tt D_a_x
        replace v_t := v_t.trn tt D_a_t
        replace h_q := h_q.besideD tt D_a_q
        replace D_a_x : DJ (Ft p_a u9_a) (· = w3.heap.size) := D_a_x.step tt (fun k hk => by subst hk; exact lq_x)
        replace D_a_t : DJ (Ft p_a u9_a) (· = w6.heap.size) := D_a_t.step tt (fun k hk => by subst hk; exact lq_t)
        replace D_a_q : DJ (Ft p_a u9_a) (Ft p_q u_q) := D_a_q.step tt lt_q
        clear h_a
        have h_a := hh
        replace bw := bw.trans (tt.bel.mono sb_a)
        replace sz := bw.size
        clear hh tt lq_x lq_t
        clear lt_q
        have lt_q : ∀ k, (Ft p_q u_q) k → k < w9.heap.size := fun k hk => (h_q.ft hk).2
        clear lt_a
        have lt_a : ∀ k, (Ft p_a u9_a) k → k < w9.heap.size := fun k hk => (h_a.ft hk).2
        have q_x := v_x.cells
        have l_x := v_x.lt
        have q_t := v_t.cells
        have l_t := v_t.lt
        (try dsimp only)
        go_wp2_with fail
        clear q_x l_x q_t l_t
        refine (wdone_any h_a (by omega)).mono ?_
        rintro e w10 ⟨A2, c2, rfl, hA2, hb⟩
        replace v_x := v_x.below hb v_x.lt
        replace v_t := v_t.below hb v_t.lt
        replace h_q := h_q.below hb
        replace h_a := h_a.below hb
        replace bw := bw.trans (hb.mono bw.size)
        replace sz := bw.size
        clear hb
        clear lt_q
        have lt_q : ∀ k, (Ft p_q u_q) k → k < w10.heap.size := fun k hk => (h_q.ft hk).2
        clear lt_a
        have lt_a : ∀ k, (Ft p_a u9_a) k → k < w10.heap.size := fun k hk => (h_a.ft hk).2
        have q_x := v_x.cells
        have l_x := v_x.lt
        have q_t := v_t.cells
        have l_t := v_t.lt
        clear h_a lt_a sb_a D_a_x D_a_t D_a_q
        (try dsimp only)
        go_wp2_with fail
        clear q_x l_x q_t l_t
        refine (err_any h_q).mono ?_
        rintro e wq ⟨rfl, rfl⟩
        have q_x := v_x.cells
        have l_x := v_x.lt
        have q_t := v_t.cells
        have l_t := v_t.lt
        (try dsimp only)
        go_wp2_with fail
        clear q_x l_x q_t l_t
        refine (err_any h_q).mono ?_
        rintro e wq ⟨rfl, rfl⟩
        have q_x := v_x.cells
        have l_x := v_x.lt
        have q_t := v_t.cells
        have l_t := v_t.lt
        (try dsimp only)
        go_wp2_with fail
        clear q_x l_x q_t l_t
        have lq_x := v_x.lt
        have lq_t := v_t.lt
        refine (read_any w10 _ (Nat.le_refl _) A c _ b rfl ((HR.out.below bw).more bw.size) hb6).mono ?_
        rintro e w11 ⟨p_p, u_p, rfl, h_p, hb, hf⟩
        replace v_x := v_x.below hb v_x.lt
        replace v_t := v_t.below hb v_t.lt
        replace h_q := h_q.below hb
        have D_p_x : DJ (Ft p_p u_p) (· = w3.heap.size) := (DJ.fresh (N := w10.heap.size) (fun k hk => by subst hk; exact lq_x) hf).symm
        have D_p_t : DJ (Ft p_p u_p) (· = w6.heap.size) := (DJ.fresh (N := w10.heap.size) (fun k hk => by subst hk; exact lq_t) hf).symm
        have D_p_q : DJ (Ft p_p u_p) (Ft p_q u_q) := (DJ.fresh lt_q (N := w10.heap.size) hf).symm
        have sb_p : w.heap.size ≤ w10.heap.size := sz
        replace bw := bw.trans (hb.mono bw.size)
        replace sz := bw.size
        clear hb hf lq_x lq_t
        clear lt_q
        have lt_q : ∀ k, (Ft p_q u_q) k → k < w11.heap.size := fun k hk => (h_q.ft hk).2
        skip
        have lt_p : ∀ k, (Ft p_p u_p) k → k < w11.heap.size := fun k hk => (h_p.ft hk).2
        have q_x := v_x.cells
        have l_x := v_x.lt
        have q_t := v_t.cells
        have l_t := v_t.lt
        clear h_q lt_q sb_q D_q_x D_q_t D_p_q
        (try dsimp only)
        go_wp2_with fail
        clear q_x l_x q_t l_t
        have lq_x := v_x.lt
        have lq_t := v_t.lt
        refine (getBlock_any h_p).mono ?_
        rintro e w12 ⟨rfl, st⟩
        rw [HK.out] at st; obtain ⟨hh, tt⟩ := st; rw [HK.out]
        replace v_x := v_x.trn tt D_p_x
        replace v_t := v_t.trn tt D_p_t
        replace D_p_x : DJ (Ft p_p u_p) (· = w3.heap.size) := D_p_x.step tt (fun k hk => by subst hk; exact lq_x)
        replace D_p_t : DJ (Ft p_p u_p) (· = w6.heap.size) := D_p_t.step tt (fun k hk => by subst hk; exact lq_t)
        clear h_p
        have h_p := hh
        replace bw := bw.trans (tt.bel.mono sb_p)
        replace sz := bw.size
        clear hh tt lq_x lq_t
        clear lt_p
        have lt_p : ∀ k, (Ft p_p u_p) k → k < w12.heap.size := fun k hk => (h_p.ft hk).2
        have q_x := v_x.cells
        have l_x := v_x.lt
        have q_t := v_t.cells
        have l_t := v_t.lt
        have d_x_k := v_x.lt
        have d_t_k := v_t.lt
        (try dsimp only)
        go_wp2_with fail
        refine at_world (F := fun w' => Var w' (w3.heap.size) #[.slice X1 0 e1, .slice X2 0 e2] 76 ∧ Var w' (w6.heap.size) #[.int .i64 0, .int .i64 0, .int .i64 0, .bool false] 54 ∧ Var w' (w12.heap.size) #[.int .i64 0, .int .i64 0, .int .i64 0] 25 ∧ RdrAt w' w10.heap.size p_p u_p b s3 ∧ w12.heap.size ≤ w'.heap.size ∧ Below w.heap.size w w') ⟨(v_x).alloc _, (v_t).alloc _, Var.newE _ _ _ rfl, h_p.below (by go_grown), by go_size, by go_grown⟩ ?_
        clear q_x l_x v_x q_t l_t v_t h_p bw sz
        rintro w13 ⟨v_x, v_t, v_k, h_p, szn, bw⟩
        have sz := bw.size
        have D_p_k : DJ (Ft p_p u_p) (· = w12.heap.size) := DJ.fresh lt_p (N := w12.heap.size) (fun k hk => by subst hk; omega)
        clear lt_p
        have lt_p : ∀ k, (Ft p_p u_p) k → k < w13.heap.size := fun k hk => (h_p.ft hk).2
        clear szn
        have lq_x := v_x.lt
        have lq_t := v_t.lt
        have lq_k := v_k.lt
        refine (new_any w13 _ (Nat.le_refl _)).mono ?_
        rintro e w14 ⟨p_d, u_d, rfl, h_d, hb, hf⟩
        replace v_x := v_x.below hb v_x.lt
        replace v_t := v_t.below hb v_t.lt
        replace v_k := v_k.below hb v_k.lt
        replace h_p := h_p.below hb
        have D_d_x : DJ (Ft p_d u_d) (· = w3.heap.size) := (DJ.fresh (N := w13.heap.size) (fun k hk => by subst hk; exact lq_x) hf).symm
        have D_d_t : DJ (Ft p_d u_d) (· = w6.heap.size) := (DJ.fresh (N := w13.heap.size) (fun k hk => by subst hk; exact lq_t) hf).symm
        have D_d_k : DJ (Ft p_d u_d) (· = w12.heap.size) := (DJ.fresh (N := w13.heap.size) (fun k hk => by subst hk; exact lq_k) hf).symm
        have D_d_p : DJ (Ft p_d u_d) (Ft p_p u_p) := (DJ.fresh lt_p (N := w13.heap.size) hf).symm
        have sb_d : w.heap.size ≤ w13.heap.size := sz
        replace bw := bw.trans (hb.mono bw.size)
        replace sz := bw.size
        clear hb hf lq_x lq_t lq_k
        clear lt_p
        have lt_p : ∀ k, (Ft p_p u_p) k → k < w14.heap.size := fun k hk => (h_p.ft hk).2
        skip
        have lt_d : ∀ k, (Ft p_d u_d) k → k < w14.heap.size := fun k hk => (h_d.ft hk).2
        have q_x := v_x.cells
        have l_x := v_x.lt
        have q_t := v_t.cells
        have l_t := v_t.lt
        have q_k := v_k.cells
        have l_k := v_k.lt
        (try dsimp only)
        go_wp2_with fail
        clear q_x l_x q_t l_t q_k l_k
        have lq_x := v_x.lt
        have lq_t := v_t.lt
        have lq_k := v_k.lt
        refine (putBlock_any h_d ⟨0, 0, 0⟩ (by simp)).mono ?_
        rintro e w15 ⟨rfl, u15_d, hh, tt⟩
        replace v_x := v_x.trn tt D_d_x
        replace v_t := v_t.trn tt D_d_t
        replace v_k := v_k.trn tt D_d_k
        replace h_p := h_p.besideD tt D_d_p
        replace D_d_x : DJ (Ft p_d u15_d) (· = w3.heap.size) := D_d_x.step tt (fun k hk => by subst hk; exact lq_x)
        replace D_d_t : DJ (Ft p_d u15_d) (· = w6.heap.size) := D_d_t.step tt (fun k hk => by subst hk; exact lq_t)
        replace D_d_k : DJ (Ft p_d u15_d) (· = w12.heap.size) := D_d_k.step tt (fun k hk => by subst hk; exact lq_k)
        replace D_d_p : DJ (Ft p_d u15_d) (Ft p_p u_p) := D_d_p.step tt lt_p
        clear h_d
        have h_d := hh
        replace bw := bw.trans (tt.bel.mono sb_d)
        replace sz := bw.size
        clear hh tt lq_x lq_t lq_k
        clear lt_p
        have lt_p : ∀ k, (Ft p_p u_p) k → k < w15.heap.size := fun k hk => (h_p.ft hk).2
        clear lt_d
        have lt_d : ∀ k, (Ft p_d u15_d) k → k < w15.heap.size := fun k hk => (h_d.ft hk).2
        have q_x := v_x.cells
        have l_x := v_x.lt
        have q_t := v_t.cells
        have l_t := v_t.lt
        have q_k := v_k.cells
        have l_k := v_k.lt
        (try dsimp only)
        go_wp2_with fail
        clear q_x l_x q_t l_t q_k l_k
        refine (wdone_any h_d (by omega)).mono ?_
        rintro e w16 ⟨A3, c3, rfl, hA3, hb⟩
        replace v_x := v_x.below hb v_x.lt
        replace v_t := v_t.below hb v_t.lt
        replace v_k := v_k.below hb v_k.lt
        replace h_p := h_p.below hb
        replace h_d := h_d.below hb
        replace bw := bw.trans (hb.mono bw.size)
        replace sz := bw.size
        clear hb
        clear lt_p
        have lt_p : ∀ k, (Ft p_p u_p) k → k < w16.heap.size := fun k hk => (h_p.ft hk).2
        clear lt_d
        have lt_d : ∀ k, (Ft p_d u15_d) k → k < w16.heap.size := fun k hk => (h_d.ft hk).2
        have q_x := v_x.cells
        have l_x := v_x.lt
        have q_t := v_t.cells
        have l_t := v_t.lt
        have q_k := v_k.cells
        have l_k := v_k.lt
        clear h_d lt_d sb_d D_d_x D_d_t D_d_k D_d_p
        (try dsimp only)
        go_wp2_with fail
        clear q_x l_x q_t l_t q_k l_k
        refine (err_any h_p).mono ?_
        rintro e wq ⟨rfl, rfl⟩
        have q_x := v_x.cells
        have l_x := v_x.lt
        have q_t := v_t.cells
        have l_t := v_t.lt
        have q_k := v_k.cells
        have l_k := v_k.lt
        (try dsimp only)
        go_wp2_with fail
        clear q_x l_x q_t l_t q_k l_k
        refine (alive_any _).mono ?_
        rintro e w17 ⟨rfl, hb⟩
        replace v_x := v_x.below hb v_x.lt
        replace v_t := v_t.below hb v_t.lt
        replace v_k := v_k.below hb v_k.lt
        replace h_p := h_p.below hb
        replace bw := bw.trans (hb.mono bw.size)
        replace sz := bw.size
        clear hb
        clear lt_p
        have lt_p : ∀ k, (Ft p_p u_p) k → k < w17.heap.size := fun k hk => (h_p.ft hk).2
        have q_x := v_x.cells
        have l_x := v_x.lt
        have q_t := v_t.cells
        have l_t := v_t.lt
        have q_k := v_k.cells
        have l_k := v_k.lt
        go_wp2
        go_ret
        exact ⟨rfl, bw⟩
end Go.Proofs.Ytagcildoebicnaa
