/-
  The walk of the law BintypeFails.
-/
import Derived.Test.YtagcildoebicnaaBtFailP
set_option linter.unusedVariables false
set_option linter.unusedSimpArgs false
namespace Go.Proofs.Ytagcildoebicnaa
open Go.RowKit

set_option maxHeartbeats 16000000 in
set_option maxRecDepth 100000 in
theorem bintypeFails_walk (A : Option Addr) (c : Nat) (b : List UInt8) (F1 F2 : Option Addr) (d1 d2 : Nat) (ps rs : List Int) (lmn lmx : Int) (lh : Bool) (tel tmn tmx : Int) (th : Bool) (gv : Int) (gm : Bool) (bk bt bi : Int) (code : Int) (w : World)
    (hr : RdB w w.heap.size A b) (hc : b.length ≤ c) (hm : c ≤ maxLen) (hp : RdI w w.heap.size F1 ps) (hq : RdI w w.heap.size F2 rs) (hpm : ps.length ≤ maxLen) (hqm : rs.length ≤ maxLen) :
    Calls Try.prog 10 #[.slice A b.length c, .agg #[.slice F1 ps.length d1, .slice F2 rs.length d2, .int .i64 lmn, .int .i64 lmx, .bool lh, .int .i64 tel, .int .i64 tmn, .int .i64 tmx, .bool th, .int .i64 gv, .bool gm, .int .i64 bk, .int .i64 bt, .int .i64 bi], .int .i64 code] w fun e w' => e = .returned (.bool true) ∧ Below w.heap.size w w' := by
  have hbm : b.length ≤ 9223372036854775807 := by unfold maxLen at hm; omega
  have hpm' : ps.length ≤ 9223372036854775807 := by unfold maxLen at hpm; omega
  have hqm' : rs.length ≤ 9223372036854775807 := by unfold maxLen at hqm; omega
  clear hm hpm hqm
  by_cases h1 : 60 < b.length
  · skip
    have g1 : decide (60 < b.length) = true := by simpa using h1
    have g1b : decide ((60 : Int) < (b.length : Int)) = true := by simp; omega
    clear h1
    go_enter Try.func10, Try.ntmps10
    (try dsimp only)
    go_wp2_with fail
    refine at_world (F := fun w' => Var w' (w.heap.size) #[.slice F1 ps.length d1, .slice F2 rs.length d2, .int .i64 lmn, .int .i64 lmx, .bool lh, .int .i64 tel, .int .i64 tmn, .int .i64 tmx, .bool th, .int .i64 gv, .bool gm, .int .i64 bk, .int .i64 bt, .int .i64 bi] 90 ∧ Below w.heap.size w w') ⟨Var.new w _ _, by go_grown⟩ ?_
    rintro w1 ⟨v_f, bw⟩
    have sz := bw.size
    refine (alive_any _).mono ?_
    rintro e w2 ⟨rfl, hb⟩
    replace v_f := v_f.below hb v_f.lt
    replace bw := bw.trans (hb.mono bw.size)
    replace sz := bw.size
    clear hb
    have q_f := v_f.cells
    have l_f := v_f.lt
    go_wp2
    go_ret
    exact ⟨rfl, bw⟩
  have g1 : decide (60 < b.length) = false := by simpa using h1
  have g1b : decide ((60 : Int) < (b.length : Int)) = false := by simp; omega
  by_cases h2 : 60 < ps.length
  · skip
    have g2 : decide (60 < ps.length) = true := by simpa using h2
    have g2b : decide ((60 : Int) < (ps.length : Int)) = true := by simp; omega
    clear h1 h2
    go_enter Try.func10, Try.ntmps10
    (try dsimp only)
    go_wp2_with fail
    refine at_world (F := fun w' => Var w' (w.heap.size) #[.slice F1 ps.length d1, .slice F2 rs.length d2, .int .i64 lmn, .int .i64 lmx, .bool lh, .int .i64 tel, .int .i64 tmn, .int .i64 tmx, .bool th, .int .i64 gv, .bool gm, .int .i64 bk, .int .i64 bt, .int .i64 bi] 90 ∧ Below w.heap.size w w') ⟨Var.new w _ _, by go_grown⟩ ?_
    rintro w1 ⟨v_f, bw⟩
    have sz := bw.size
    refine (alive_any _).mono ?_
    rintro e w2 ⟨rfl, hb⟩
    replace v_f := v_f.below hb v_f.lt
    replace bw := bw.trans (hb.mono bw.size)
    replace sz := bw.size
    clear hb
    have q_f := v_f.cells
    have l_f := v_f.lt
    go_wp2
    go_ret
    exact ⟨rfl, bw⟩
  have g2 : decide (60 < ps.length) = false := by simpa using h2
  have g2b : decide ((60 : Int) < (ps.length : Int)) = false := by simp; omega
  by_cases h3 : 60 < rs.length
  · skip
    have g3 : decide (60 < rs.length) = true := by simpa using h3
    have g3b : decide ((60 : Int) < (rs.length : Int)) = true := by simp; omega
    clear h1 h2 h3
    go_enter Try.func10, Try.ntmps10
    (try dsimp only)
    go_wp2_with fail
    refine at_world (F := fun w' => Var w' (w.heap.size) #[.slice F1 ps.length d1, .slice F2 rs.length d2, .int .i64 lmn, .int .i64 lmx, .bool lh, .int .i64 tel, .int .i64 tmn, .int .i64 tmx, .bool th, .int .i64 gv, .bool gm, .int .i64 bk, .int .i64 bt, .int .i64 bi] 90 ∧ Below w.heap.size w w') ⟨Var.new w _ _, by go_grown⟩ ?_
    rintro w1 ⟨v_f, bw⟩
    have sz := bw.size
    refine (alive_any _).mono ?_
    rintro e w2 ⟨rfl, hb⟩
    replace v_f := v_f.below hb v_f.lt
    replace bw := bw.trans (hb.mono bw.size)
    replace sz := bw.size
    clear hb
    have q_f := v_f.cells
    have l_f := v_f.lt
    go_wp2
    go_ret
    exact ⟨rfl, bw⟩
  have g3 : decide (60 < rs.length) = false := by simpa using h3
  have g3b : decide ((60 : Int) < (rs.length : Int)) = false := by simp; omega
  have hb6 : b.length ≤ 1000000 := by omega
  have hp6 : ps.length ≤ 60 := by omega
  have hq6 : rs.length ≤ 60 := by omega
  clear h1 h2 h3
  have HR := Lib.hid hr
  have HP := Lib.hid hp
  have HQ := Lib.hid hq
  clear hr hp hq
  have n1 := neq_lim0
  have n2 := neq_tab0
  have n3 := neq_glo0
  have n4 := neq_blk0
  by_cases hcode : code = 0
  · subst hcode
    have HW : Hid (¬ (⟨[], 2⟩ : Oct.Wt).err = 0) := by unfold Hid; decide
    have HRR : Hid (¬ (⟨0, 2⟩ : Oct.St).err = 0) := by unfold Hid; decide
    go_enter Try.func10, Try.ntmps10
    (try dsimp only)
    go_wp2_with fail
    refine at_world (F := fun w' => Var w' (w.heap.size) #[.slice F1 ps.length d1, .slice F2 rs.length d2, .int .i64 lmn, .int .i64 lmx, .bool lh, .int .i64 tel, .int .i64 tmn, .int .i64 tmx, .bool th, .int .i64 gv, .bool gm, .int .i64 bk, .int .i64 bt, .int .i64 bi] 90 ∧ Below w.heap.size w w') ⟨Var.new w _ _, by go_grown⟩ ?_
    rintro w1 ⟨v_f, bw⟩
    have sz := bw.size
    have lq_f := v_f.lt
    refine (read_any w1 _ (Nat.le_refl _) A c _ b rfl ((HR.out.below bw).more bw.size) hb6).mono ?_
    rintro e w2 ⟨p_r0, u_r0, rfl, h_r0, hb, hf⟩
    replace v_f := v_f.below hb v_f.lt
    have D_r0_f : DJ (Ft p_r0 u_r0) (· = w.heap.size) := (DJ.fresh (N := w1.heap.size) (fun k hk => by subst hk; exact lq_f) hf).symm
    have sb_r0 : w.heap.size ≤ w1.heap.size := sz
    replace bw := bw.trans (hb.mono bw.size)
    replace sz := bw.size
    clear hb hf lq_f
    skip
    have lt_r0 : ∀ k, (Ft p_r0 u_r0) k → k < w2.heap.size := fun k hk => (h_r0.ft hk).2
    have q_f := v_f.cells
    have l_f := v_f.lt
    (try dsimp only)
    go_wp2_with fail
    clear q_f l_f
    have lq_f := v_f.lt
    refine (new_any w2 _ (Nat.le_refl _)).mono ?_
    rintro e w3 ⟨p_a0, u_a0, rfl, h_a0, hb, hf⟩
    replace v_f := v_f.below hb v_f.lt
    replace h_r0 := h_r0.below hb
    have D_a0_f : DJ (Ft p_a0 u_a0) (· = w.heap.size) := (DJ.fresh (N := w2.heap.size) (fun k hk => by subst hk; exact lq_f) hf).symm
    have D_a0_r0 : DJ (Ft p_a0 u_a0) (Ft p_r0 u_r0) := (DJ.fresh lt_r0 (N := w2.heap.size) hf).symm
    have sb_a0 : w.heap.size ≤ w2.heap.size := sz
    replace bw := bw.trans (hb.mono bw.size)
    replace sz := bw.size
    clear hb hf lq_f
    clear lt_r0
    have lt_r0 : ∀ k, (Ft p_r0 u_r0) k → k < w3.heap.size := fun k hk => (h_r0.ft hk).2
    skip
    have lt_a0 : ∀ k, (Ft p_a0 u_a0) k → k < w3.heap.size := fun k hk => (h_a0.ft hk).2
    have q_f := v_f.cells
    have l_f := v_f.lt
    clear h_r0 h_a0 lt_r0 lt_a0 D_r0_f D_a0_f D_a0_r0 sb_r0 sb_a0
    have h_r := nilR (B := w.heap.size) sz b
    have lt_r : ∀ k, (Ft (.pointer none) (.slice none 0 0)) k → k < w3.heap.size := fun k hk => absurd hk (nilFt k)
    have sb_r : w.heap.size ≤ w.heap.size := Nat.le_refl _
    have D_r_f : DJ (Ft (.pointer none) (.slice none 0 0)) (· = w.heap.size) := fun k hk _ => nilFt k hk
    have h_a := nilW (B := w.heap.size) sz
    have lt_a : ∀ k, (Ft (.pointer none) (.slice none 0 0)) k → k < w3.heap.size := fun k hk => absurd hk (nilFt k)
    have sb_a : w.heap.size ≤ w.heap.size := Nat.le_refl _
    have D_a_f : DJ (Ft (.pointer none) (.slice none 0 0)) (· = w.heap.size) := fun k hk _ => nilFt k hk
    have D_a_r : DJ (Ft (.pointer none) (.slice none 0 0)) (Ft (.pointer none) (.slice none 0 0)) := fun k hk _ => nilFt k hk
    (try dsimp only)
    go_wp2_with fail
    clear q_f l_f
    have lq_f := v_f.lt
    refine (putVal_any h_a 1 (by simp)).mono ?_
    rintro e w4 ⟨rfl, u4_a, hh, tt⟩; rw [Oct.putVal_no HW.out] at hh
    replace v_f := v_f.trn tt D_a_f
    replace h_r := h_r.besideD tt D_a_r
    replace D_a_f : DJ (Ft (.pointer none) u4_a) (· = w.heap.size) := D_a_f.step tt (fun k hk => by subst hk; exact lq_f)
    replace D_a_r : DJ (Ft (.pointer none) u4_a) (Ft (.pointer none) (.slice none 0 0)) := D_a_r.step tt lt_r
    clear h_a
    have h_a := hh
    replace bw := bw.trans (tt.bel.mono sb_a)
    replace sz := bw.size
    clear hh tt lq_f
    clear lt_r
    have lt_r : ∀ k, (Ft (.pointer none) (.slice none 0 0)) k → k < w4.heap.size := fun k hk => (h_r.ft hk).2
    clear lt_a
    have lt_a : ∀ k, (Ft (.pointer none) u4_a) k → k < w4.heap.size := fun k hk => (h_a.ft hk).2
    have q_f := v_f.cells
    have l_f := v_f.lt
    (try dsimp only)
    go_wp2_with fail
    clear q_f l_f
    have lq_f := v_f.lt
    refine (putFunc_any h_a F1 F2 d1 d2 ps rs (Lst.param HP.out bw (fun k hk => Nat.le_trans sb_a (h_a.ft hk).1)) (Lst.param HQ.out bw (fun k hk => Nat.le_trans sb_a (h_a.ft hk).1)) (by simp) (by omega) (by omega)).mono ?_
    rintro e w5 ⟨rfl, u5_a, hh, tt⟩; rw [Oct.putFunc_no HW.out] at hh
    replace v_f := v_f.trn tt D_a_f
    replace h_r := h_r.besideD tt D_a_r
    replace D_a_f : DJ (Ft (.pointer none) u5_a) (· = w.heap.size) := D_a_f.step tt (fun k hk => by subst hk; exact lq_f)
    replace D_a_r : DJ (Ft (.pointer none) u5_a) (Ft (.pointer none) (.slice none 0 0)) := D_a_r.step tt lt_r
    clear h_a
    have h_a := hh
    replace bw := bw.trans (tt.bel.mono sb_a)
    replace sz := bw.size
    clear hh tt lq_f
    clear lt_r
    have lt_r : ∀ k, (Ft (.pointer none) (.slice none 0 0)) k → k < w5.heap.size := fun k hk => (h_r.ft hk).2
    clear lt_a
    have lt_a : ∀ k, (Ft (.pointer none) u5_a) k → k < w5.heap.size := fun k hk => (h_a.ft hk).2
    have q_f := v_f.cells
    have l_f := v_f.lt
    (try dsimp only)
    go_wp2_with fail
    clear q_f l_f
    have lq_f := v_f.lt
    refine (putLim_any h_a ⟨lmn, lmx, lh⟩ (by simp)).mono ?_
    rintro e w6 ⟨rfl, u6_a, hh, tt⟩; rw [Oct.putLim_no HW.out] at hh
    replace v_f := v_f.trn tt D_a_f
    replace h_r := h_r.besideD tt D_a_r
    replace D_a_f : DJ (Ft (.pointer none) u6_a) (· = w.heap.size) := D_a_f.step tt (fun k hk => by subst hk; exact lq_f)
    replace D_a_r : DJ (Ft (.pointer none) u6_a) (Ft (.pointer none) (.slice none 0 0)) := D_a_r.step tt lt_r
    clear h_a
    have h_a := hh
    replace bw := bw.trans (tt.bel.mono sb_a)
    replace sz := bw.size
    clear hh tt lq_f
    clear lt_r
    have lt_r : ∀ k, (Ft (.pointer none) (.slice none 0 0)) k → k < w6.heap.size := fun k hk => (h_r.ft hk).2
    clear lt_a
    have lt_a : ∀ k, (Ft (.pointer none) u6_a) k → k < w6.heap.size := fun k hk => (h_a.ft hk).2
    have q_f := v_f.cells
    have l_f := v_f.lt
    (try dsimp only)
    go_wp2_with fail
    clear q_f l_f
    have lq_f := v_f.lt
    refine (putTable_any h_a tel ⟨tmn, tmx, th⟩ (by simp)).mono ?_
    rintro e w7 ⟨rfl, u7_a, hh, tt⟩; rw [Oct.putTable_no HW.out] at hh
    replace v_f := v_f.trn tt D_a_f
    replace h_r := h_r.besideD tt D_a_r
    replace D_a_f : DJ (Ft (.pointer none) u7_a) (· = w.heap.size) := D_a_f.step tt (fun k hk => by subst hk; exact lq_f)
    replace D_a_r : DJ (Ft (.pointer none) u7_a) (Ft (.pointer none) (.slice none 0 0)) := D_a_r.step tt lt_r
    clear h_a
    have h_a := hh
    replace bw := bw.trans (tt.bel.mono sb_a)
    replace sz := bw.size
    clear hh tt lq_f
    clear lt_r
    have lt_r : ∀ k, (Ft (.pointer none) (.slice none 0 0)) k → k < w7.heap.size := fun k hk => (h_r.ft hk).2
    clear lt_a
    have lt_a : ∀ k, (Ft (.pointer none) u7_a) k → k < w7.heap.size := fun k hk => (h_a.ft hk).2
    have q_f := v_f.cells
    have l_f := v_f.lt
    (try dsimp only)
    go_wp2_with fail
    clear q_f l_f
    have lq_f := v_f.lt
    refine (putGlobal_any h_a gv gm (by simp)).mono ?_
    rintro e w8 ⟨rfl, u8_a, hh, tt⟩; rw [Oct.putGlobal_no HW.out] at hh
    replace v_f := v_f.trn tt D_a_f
    replace h_r := h_r.besideD tt D_a_r
    replace D_a_f : DJ (Ft (.pointer none) u8_a) (· = w.heap.size) := D_a_f.step tt (fun k hk => by subst hk; exact lq_f)
    replace D_a_r : DJ (Ft (.pointer none) u8_a) (Ft (.pointer none) (.slice none 0 0)) := D_a_r.step tt lt_r
    clear h_a
    have h_a := hh
    replace bw := bw.trans (tt.bel.mono sb_a)
    replace sz := bw.size
    clear hh tt lq_f
    clear lt_r
    have lt_r : ∀ k, (Ft (.pointer none) (.slice none 0 0)) k → k < w8.heap.size := fun k hk => (h_r.ft hk).2
    clear lt_a
    have lt_a : ∀ k, (Ft (.pointer none) u8_a) k → k < w8.heap.size := fun k hk => (h_a.ft hk).2
    have q_f := v_f.cells
    have l_f := v_f.lt
    (try dsimp only)
    go_wp2_with fail
    clear q_f l_f
    have lq_f := v_f.lt
    refine (putBlock_any h_a ⟨bk, bt, bi⟩ (by simp)).mono ?_
    rintro e w9 ⟨rfl, u9_a, hh, tt⟩; rw [Oct.putBlock_no HW.out] at hh
    replace v_f := v_f.trn tt D_a_f
    replace h_r := h_r.besideD tt D_a_r
    replace D_a_f : DJ (Ft (.pointer none) u9_a) (· = w.heap.size) := D_a_f.step tt (fun k hk => by subst hk; exact lq_f)
    replace D_a_r : DJ (Ft (.pointer none) u9_a) (Ft (.pointer none) (.slice none 0 0)) := D_a_r.step tt lt_r
    clear h_a
    have h_a := hh
    replace bw := bw.trans (tt.bel.mono sb_a)
    replace sz := bw.size
    clear hh tt lq_f
    clear lt_r
    have lt_r : ∀ k, (Ft (.pointer none) (.slice none 0 0)) k → k < w9.heap.size := fun k hk => (h_r.ft hk).2
    clear lt_a
    have lt_a : ∀ k, (Ft (.pointer none) u9_a) k → k < w9.heap.size := fun k hk => (h_a.ft hk).2
    have q_f := v_f.cells
    have l_f := v_f.lt
    (try dsimp only)
    go_wp2_with fail
    clear q_f l_f
    have lq_f := v_f.lt
    refine (getFunc_any h_r).mono ?_
    rintro e w10 ⟨X1, e1, X2, e2, rfl, -, -, st⟩
    rw [Oct.getFunc_no HRR.out] at st; obtain ⟨hh, tt⟩ := st; rw [Oct.getFunc_no HRR.out]
    replace v_f := v_f.trn tt D_r_f
    replace h_a := h_a.besideD tt D_a_r.symm
    replace D_r_f : DJ (Ft (.pointer none) (.slice none 0 0)) (· = w.heap.size) := D_r_f.step tt (fun k hk => by subst hk; exact lq_f)
    replace D_a_r : DJ (Ft (.pointer none) u9_a) (Ft (.pointer none) (.slice none 0 0)) := (D_a_r.symm.step tt lt_a).symm
    clear h_r
    have h_r := hh
    replace bw := bw.trans (tt.bel.mono sb_r)
    replace sz := bw.size
    clear hh tt lq_f
    clear lt_r
    have lt_r : ∀ k, (Ft (.pointer none) (.slice none 0 0)) k → k < w10.heap.size := fun k hk => (h_r.ft hk).2
    clear lt_a
    have lt_a : ∀ k, (Ft (.pointer none) u9_a) k → k < w10.heap.size := fun k hk => (h_a.ft hk).2
    have q_f := v_f.cells
    have l_f := v_f.lt
    have d_f_y := v_f.lt
    (try dsimp only)
    go_wp2_with fail
    refine at_world (F := fun w' => Var w' (w.heap.size) #[.slice F1 ps.length d1, .slice F2 rs.length d2, .int .i64 lmn, .int .i64 lmx, .bool lh, .int .i64 tel, .int .i64 tmn, .int .i64 tmx, .bool th, .int .i64 gv, .bool gm, .int .i64 bk, .int .i64 bt, .int .i64 bi] 90 ∧ Var w' (w10.heap.size) #[.slice X1 0 e1, .slice X2 0 e2] 76 ∧ RdrAt w' w.heap.size (.pointer none) (.slice none 0 0) b ⟨0, 2⟩ ∧ WrAt w' w.heap.size (.pointer none) u9_a ⟨[], 2⟩ ∧ w10.heap.size ≤ w'.heap.size ∧ Below w.heap.size w w') ⟨(v_f).alloc _, Var.newE _ _ _ rfl, h_r.below (by go_grown), h_a.below (by go_grown), by go_size, by go_grown⟩ ?_
    clear q_f l_f v_f h_r  h_a bw sz
    rintro w11 ⟨v_f, v_y, h_r, h_a, szn, bw⟩
    have sz := bw.size
    have D_r_y : DJ (Ft (.pointer none) (.slice none 0 0)) (· = w10.heap.size) := DJ.fresh lt_r (N := w10.heap.size) (fun k hk => by subst hk; omega)
    have D_a_y : DJ (Ft (.pointer none) u9_a) (· = w10.heap.size) := DJ.fresh lt_a (N := w10.heap.size) (fun k hk => by subst hk; omega)
    clear lt_r
    have lt_r : ∀ k, (Ft (.pointer none) (.slice none 0 0)) k → k < w11.heap.size := fun k hk => (h_r.ft hk).2
    clear lt_a
    have lt_a : ∀ k, (Ft (.pointer none) u9_a) k → k < w11.heap.size := fun k hk => (h_a.ft hk).2
    clear szn
    have lq_f := v_f.lt
    have lq_y := v_y.lt
    refine (getVal_any h_r).mono ?_
    rintro e w12 ⟨rfl, st⟩
    rw [Oct.getVal_no HRR.out] at st; obtain ⟨hh, tt⟩ := st; rw [Oct.getVal_no HRR.out]
    replace v_f := v_f.trn tt D_r_f
    replace v_y := v_y.trn tt D_r_y
    replace h_a := h_a.besideD tt D_a_r.symm
    replace D_r_f : DJ (Ft (.pointer none) (.slice none 0 0)) (· = w.heap.size) := D_r_f.step tt (fun k hk => by subst hk; exact lq_f)
    replace D_r_y : DJ (Ft (.pointer none) (.slice none 0 0)) (· = w10.heap.size) := D_r_y.step tt (fun k hk => by subst hk; exact lq_y)
    replace D_a_r : DJ (Ft (.pointer none) u9_a) (Ft (.pointer none) (.slice none 0 0)) := (D_a_r.symm.step tt lt_a).symm
    clear h_r
    have h_r := hh
    replace bw := bw.trans (tt.bel.mono sb_r)
    replace sz := bw.size
    clear hh tt lq_f lq_y
    clear lt_r
    have lt_r : ∀ k, (Ft (.pointer none) (.slice none 0 0)) k → k < w12.heap.size := fun k hk => (h_r.ft hk).2
    clear lt_a
    have lt_a : ∀ k, (Ft (.pointer none) u9_a) k → k < w12.heap.size := fun k hk => (h_a.ft hk).2
    have q_f := v_f.cells
    have l_f := v_f.lt
    have q_y := v_y.cells
    have l_y := v_y.lt
    (try dsimp only)
    go_wp2_with fail
    clear q_f l_f q_y l_y
    have lq_f := v_f.lt
    have lq_y := v_y.lt
    refine (getLim_any h_r).mono ?_
    rintro e w13 ⟨rfl, st⟩
    rw [Oct.getLim_no HRR.out] at st; obtain ⟨hh, tt⟩ := st; rw [Oct.getLim_no HRR.out]
    replace v_f := v_f.trn tt D_r_f
    replace v_y := v_y.trn tt D_r_y
    replace h_a := h_a.besideD tt D_a_r.symm
    replace D_r_f : DJ (Ft (.pointer none) (.slice none 0 0)) (· = w.heap.size) := D_r_f.step tt (fun k hk => by subst hk; exact lq_f)
    replace D_r_y : DJ (Ft (.pointer none) (.slice none 0 0)) (· = w10.heap.size) := D_r_y.step tt (fun k hk => by subst hk; exact lq_y)
    replace D_a_r : DJ (Ft (.pointer none) u9_a) (Ft (.pointer none) (.slice none 0 0)) := (D_a_r.symm.step tt lt_a).symm
    clear h_r
    have h_r := hh
    replace bw := bw.trans (tt.bel.mono sb_r)
    replace sz := bw.size
    clear hh tt lq_f lq_y
    clear lt_r
    have lt_r : ∀ k, (Ft (.pointer none) (.slice none 0 0)) k → k < w13.heap.size := fun k hk => (h_r.ft hk).2
    clear lt_a
    have lt_a : ∀ k, (Ft (.pointer none) u9_a) k → k < w13.heap.size := fun k hk => (h_a.ft hk).2
    have q_f := v_f.cells
    have l_f := v_f.lt
    have q_y := v_y.cells
    have l_y := v_y.lt
    (try dsimp only)
    go_wp2_with fail
    clear q_f l_f q_y l_y
    have lq_f := v_f.lt
    have lq_y := v_y.lt
    refine (getTable_any h_r).mono ?_
    rintro e w14 ⟨rfl, st⟩
    rw [Oct.getTable_no HRR.out] at st; obtain ⟨hh, tt⟩ := st; rw [Oct.getTable_no HRR.out]
    replace v_f := v_f.trn tt D_r_f
    replace v_y := v_y.trn tt D_r_y
    replace h_a := h_a.besideD tt D_a_r.symm
    replace D_r_f : DJ (Ft (.pointer none) (.slice none 0 0)) (· = w.heap.size) := D_r_f.step tt (fun k hk => by subst hk; exact lq_f)
    replace D_r_y : DJ (Ft (.pointer none) (.slice none 0 0)) (· = w10.heap.size) := D_r_y.step tt (fun k hk => by subst hk; exact lq_y)
    replace D_a_r : DJ (Ft (.pointer none) u9_a) (Ft (.pointer none) (.slice none 0 0)) := (D_a_r.symm.step tt lt_a).symm
    clear h_r
    have h_r := hh
    replace bw := bw.trans (tt.bel.mono sb_r)
    replace sz := bw.size
    clear hh tt lq_f lq_y
    clear lt_r
    have lt_r : ∀ k, (Ft (.pointer none) (.slice none 0 0)) k → k < w14.heap.size := fun k hk => (h_r.ft hk).2
    clear lt_a
    have lt_a : ∀ k, (Ft (.pointer none) u9_a) k → k < w14.heap.size := fun k hk => (h_a.ft hk).2
    have q_f := v_f.cells
    have l_f := v_f.lt
    have q_y := v_y.cells
    have l_y := v_y.lt
    (try dsimp only)
    go_wp2_with fail
    clear q_f l_f q_y l_y
    have lq_f := v_f.lt
    have lq_y := v_y.lt
    refine (getGlobal_any h_r).mono ?_
    rintro e w15 ⟨rfl, st⟩
    rw [Oct.getGlobal_no HRR.out] at st; obtain ⟨hh, tt⟩ := st; rw [Oct.getGlobal_no HRR.out]
    replace v_f := v_f.trn tt D_r_f
    replace v_y := v_y.trn tt D_r_y
    replace h_a := h_a.besideD tt D_a_r.symm
    replace D_r_f : DJ (Ft (.pointer none) (.slice none 0 0)) (· = w.heap.size) := D_r_f.step tt (fun k hk => by subst hk; exact lq_f)
    replace D_r_y : DJ (Ft (.pointer none) (.slice none 0 0)) (· = w10.heap.size) := D_r_y.step tt (fun k hk => by subst hk; exact lq_y)
    replace D_a_r : DJ (Ft (.pointer none) u9_a) (Ft (.pointer none) (.slice none 0 0)) := (D_a_r.symm.step tt lt_a).symm
    clear h_r
    have h_r := hh
    replace bw := bw.trans (tt.bel.mono sb_r)
    replace sz := bw.size
    clear hh tt lq_f lq_y
    clear lt_r
    have lt_r : ∀ k, (Ft (.pointer none) (.slice none 0 0)) k → k < w15.heap.size := fun k hk => (h_r.ft hk).2
    clear lt_a
    have lt_a : ∀ k, (Ft (.pointer none) u9_a) k → k < w15.heap.size := fun k hk => (h_a.ft hk).2
    have q_f := v_f.cells
    have l_f := v_f.lt
    have q_y := v_y.cells
    have l_y := v_y.lt
    (try dsimp only)
    go_wp2_with fail
    clear q_f l_f q_y l_y
    have lq_f := v_f.lt
    have lq_y := v_y.lt
    refine (getBlock_any h_r).mono ?_
    rintro e w16 ⟨rfl, st⟩
    rw [Oct.getBlock_no HRR.out] at st; obtain ⟨hh, tt⟩ := st; rw [Oct.getBlock_no HRR.out]
    replace v_f := v_f.trn tt D_r_f
    replace v_y := v_y.trn tt D_r_y
    replace h_a := h_a.besideD tt D_a_r.symm
    replace D_r_f : DJ (Ft (.pointer none) (.slice none 0 0)) (· = w.heap.size) := D_r_f.step tt (fun k hk => by subst hk; exact lq_f)
    replace D_r_y : DJ (Ft (.pointer none) (.slice none 0 0)) (· = w10.heap.size) := D_r_y.step tt (fun k hk => by subst hk; exact lq_y)
    replace D_a_r : DJ (Ft (.pointer none) u9_a) (Ft (.pointer none) (.slice none 0 0)) := (D_a_r.symm.step tt lt_a).symm
    clear h_r
    have h_r := hh
    replace bw := bw.trans (tt.bel.mono sb_r)
    replace sz := bw.size
    clear hh tt lq_f lq_y
    clear lt_r
    have lt_r : ∀ k, (Ft (.pointer none) (.slice none 0 0)) k → k < w16.heap.size := fun k hk => (h_r.ft hk).2
    clear lt_a
    have lt_a : ∀ k, (Ft (.pointer none) u9_a) k → k < w16.heap.size := fun k hk => (h_a.ft hk).2
    have q_f := v_f.cells
    have l_f := v_f.lt
    have q_y := v_y.cells
    have l_y := v_y.lt
    (try dsimp only)
    go_wp2_with fail
    clear q_f l_f q_y l_y
    refine (wdone_any h_a (by simp)).mono ?_
    rintro e w17 ⟨A2, c2, rfl, hA2, hb⟩
    replace v_f := v_f.below hb v_f.lt
    replace v_y := v_y.below hb v_y.lt
    replace h_r := h_r.below hb
    replace h_a := h_a.below hb
    replace bw := bw.trans (hb.mono bw.size)
    replace sz := bw.size
    clear hb
    clear lt_r
    have lt_r : ∀ k, (Ft (.pointer none) (.slice none 0 0)) k → k < w17.heap.size := fun k hk => (h_r.ft hk).2
    clear lt_a
    have lt_a : ∀ k, (Ft (.pointer none) u9_a) k → k < w17.heap.size := fun k hk => (h_a.ft hk).2
    have q_f := v_f.cells
    have l_f := v_f.lt
    have q_y := v_y.cells
    have l_y := v_y.lt
    (try dsimp only)
    go_wp2_with fail
    clear q_f l_f q_y l_y
    refine (err_any h_r).mono ?_
    rintro e wq ⟨rfl, rfl⟩
    have q_f := v_f.cells
    have l_f := v_f.lt
    have q_y := v_y.cells
    have l_y := v_y.lt
    (try dsimp only)
    go_wp2_with fail
    clear q_f l_f q_y l_y
    refine (alive_any _).mono ?_
    rintro e w18 ⟨rfl, hb⟩
    replace v_f := v_f.below hb v_f.lt
    replace v_y := v_y.below hb v_y.lt
    replace h_r := h_r.below hb
    replace h_a := h_a.below hb
    replace bw := bw.trans (hb.mono bw.size)
    replace sz := bw.size
    clear hb
    clear lt_r
    have lt_r : ∀ k, (Ft (.pointer none) (.slice none 0 0)) k → k < w18.heap.size := fun k hk => (h_r.ft hk).2
    clear lt_a
    have lt_a : ∀ k, (Ft (.pointer none) u9_a) k → k < w18.heap.size := fun k hk => (h_a.ft hk).2
    have q_f := v_f.cells
    have l_f := v_f.lt
    have q_y := v_y.cells
    have l_y := v_y.lt
    go_wp2
    go_ret
    exact ⟨rfl, bw⟩
  · have g0 : (code == 0) = false := by simpa using hcode
    have gcc : (code == code) = true := by simp
    have HW : Hid (¬ (⟨[], code⟩ : Oct.Wt).err = 0) := hcode
    have HRR : Hid (¬ (⟨0, code⟩ : Oct.St).err = 0) := hcode
    clear hcode
    go_enter Try.func10, Try.ntmps10
    (try dsimp only)
    go_wp2_with fail
    refine at_world (F := fun w' => Var w' (w.heap.size) #[.slice F1 ps.length d1, .slice F2 rs.length d2, .int .i64 lmn, .int .i64 lmx, .bool lh, .int .i64 tel, .int .i64 tmn, .int .i64 tmx, .bool th, .int .i64 gv, .bool gm, .int .i64 bk, .int .i64 bt, .int .i64 bi] 90 ∧ Below w.heap.size w w') ⟨Var.new w _ _, by go_grown⟩ ?_
    rintro w1 ⟨v_f, bw⟩
    have sz := bw.size
    have lq_f := v_f.lt
    refine (read_any w1 _ (Nat.le_refl _) A c _ b rfl ((HR.out.below bw).more bw.size) hb6).mono ?_
    rintro e w2 ⟨p_r, u_r, rfl, h_r, hb, hf⟩
    replace v_f := v_f.below hb v_f.lt
    have D_r_f : DJ (Ft p_r u_r) (· = w.heap.size) := (DJ.fresh (N := w1.heap.size) (fun k hk => by subst hk; exact lq_f) hf).symm
    have sb_r : w.heap.size ≤ w1.heap.size := sz
    replace bw := bw.trans (hb.mono bw.size)
    replace sz := bw.size
    clear hb hf lq_f
    skip
    have lt_r : ∀ k, (Ft p_r u_r) k → k < w2.heap.size := fun k hk => (h_r.ft hk).2
    have q_f := v_f.cells
    have l_f := v_f.lt
    (try dsimp only)
    go_wp2_with fail
    clear q_f l_f
    have lq_f := v_f.lt
    refine (new_any w2 _ (Nat.le_refl _)).mono ?_
    rintro e w3 ⟨p_a, u_a, rfl, h_a, hb, hf⟩
    replace v_f := v_f.below hb v_f.lt
    replace h_r := h_r.below hb
    have D_a_f : DJ (Ft p_a u_a) (· = w.heap.size) := (DJ.fresh (N := w2.heap.size) (fun k hk => by subst hk; exact lq_f) hf).symm
    have D_a_r : DJ (Ft p_a u_a) (Ft p_r u_r) := (DJ.fresh lt_r (N := w2.heap.size) hf).symm
    have sb_a : w.heap.size ≤ w2.heap.size := sz
    replace bw := bw.trans (hb.mono bw.size)
    replace sz := bw.size
    clear hb hf lq_f
    clear lt_r
    have lt_r : ∀ k, (Ft p_r u_r) k → k < w3.heap.size := fun k hk => (h_r.ft hk).2
    skip
    have lt_a : ∀ k, (Ft p_a u_a) k → k < w3.heap.size := fun k hk => (h_a.ft hk).2
    have q_f := v_f.cells
    have l_f := v_f.lt
    (try dsimp only)
    go_wp2_with fail
    clear q_f l_f
    have lq_f := v_f.lt
    refine (fail_any h_r code).mono ?_
    rintro e w4 ⟨rfl, st⟩
    rw [show Oct.St.fail ⟨0, 0⟩ code = ⟨0, code⟩ from rfl] at st; obtain ⟨hh, tt⟩ := st
    replace v_f := v_f.trn tt D_r_f
    replace h_a := h_a.besideD tt D_a_r.symm
    replace D_r_f : DJ (Ft p_r u_r) (· = w.heap.size) := D_r_f.step tt (fun k hk => by subst hk; exact lq_f)
    replace D_a_r : DJ (Ft p_a u_a) (Ft p_r u_r) := (D_a_r.symm.step tt lt_a).symm
    clear h_r
    have h_r := hh
    replace bw := bw.trans (tt.bel.mono sb_r)
    replace sz := bw.size
    clear hh tt lq_f
    clear lt_r
    have lt_r : ∀ k, (Ft p_r u_r) k → k < w4.heap.size := fun k hk => (h_r.ft hk).2
    clear lt_a
    have lt_a : ∀ k, (Ft p_a u_a) k → k < w4.heap.size := fun k hk => (h_a.ft hk).2
    have q_f := v_f.cells
    have l_f := v_f.lt
    (try dsimp only)
    go_wp2_with fail
    clear q_f l_f
    have lq_f := v_f.lt
    refine (wfail_any h_a code).mono ?_
    rintro e w5 ⟨rfl, u5_a, hh, tt⟩; rw [show Oct.Wt.fail ⟨[], 0⟩ code = ⟨[], code⟩ from rfl] at hh
    replace v_f := v_f.trn tt D_a_f
    replace h_r := h_r.besideD tt D_a_r
    replace D_a_f : DJ (Ft p_a u5_a) (· = w.heap.size) := D_a_f.step tt (fun k hk => by subst hk; exact lq_f)
    replace D_a_r : DJ (Ft p_a u5_a) (Ft p_r u_r) := D_a_r.step tt lt_r
    clear h_a
    have h_a := hh
    replace bw := bw.trans (tt.bel.mono sb_a)
    replace sz := bw.size
    clear hh tt lq_f
    clear lt_r
    have lt_r : ∀ k, (Ft p_r u_r) k → k < w5.heap.size := fun k hk => (h_r.ft hk).2
    clear lt_a
    have lt_a : ∀ k, (Ft p_a u5_a) k → k < w5.heap.size := fun k hk => (h_a.ft hk).2
    have q_f := v_f.cells
    have l_f := v_f.lt
    (try dsimp only)
    go_wp2_with fail
    clear q_f l_f
    have lq_f := v_f.lt
    refine (putVal_any h_a 1 (by simp)).mono ?_
    rintro e w6 ⟨rfl, u6_a, hh, tt⟩; rw [Oct.putVal_no HW.out] at hh
    replace v_f := v_f.trn tt D_a_f
    replace h_r := h_r.besideD tt D_a_r
    replace D_a_f : DJ (Ft p_a u6_a) (· = w.heap.size) := D_a_f.step tt (fun k hk => by subst hk; exact lq_f)
    replace D_a_r : DJ (Ft p_a u6_a) (Ft p_r u_r) := D_a_r.step tt lt_r
    clear h_a
    have h_a := hh
    replace bw := bw.trans (tt.bel.mono sb_a)
    replace sz := bw.size
    clear hh tt lq_f
    clear lt_r
    have lt_r : ∀ k, (Ft p_r u_r) k → k < w6.heap.size := fun k hk => (h_r.ft hk).2
    clear lt_a
    have lt_a : ∀ k, (Ft p_a u6_a) k → k < w6.heap.size := fun k hk => (h_a.ft hk).2
    have q_f := v_f.cells
    have l_f := v_f.lt
    (try dsimp only)
    go_wp2_with fail
    clear q_f l_f
    have lq_f := v_f.lt
    refine (putFunc_any h_a F1 F2 d1 d2 ps rs (Lst.param HP.out bw (fun k hk => Nat.le_trans sb_a (h_a.ft hk).1)) (Lst.param HQ.out bw (fun k hk => Nat.le_trans sb_a (h_a.ft hk).1)) (by simp) (by omega) (by omega)).mono ?_
    rintro e w7 ⟨rfl, u7_a, hh, tt⟩; rw [Oct.putFunc_no HW.out] at hh
    replace v_f := v_f.trn tt D_a_f
    replace h_r := h_r.besideD tt D_a_r
    replace D_a_f : DJ (Ft p_a u7_a) (· = w.heap.size) := D_a_f.step tt (fun k hk => by subst hk; exact lq_f)
    replace D_a_r : DJ (Ft p_a u7_a) (Ft p_r u_r) := D_a_r.step tt lt_r
    clear h_a
    have h_a := hh
    replace bw := bw.trans (tt.bel.mono sb_a)
    replace sz := bw.size
    clear hh tt lq_f
    clear lt_r
    have lt_r : ∀ k, (Ft p_r u_r) k → k < w7.heap.size := fun k hk => (h_r.ft hk).2
    clear lt_a
    have lt_a : ∀ k, (Ft p_a u7_a) k → k < w7.heap.size := fun k hk => (h_a.ft hk).2
    have q_f := v_f.cells
    have l_f := v_f.lt
    (try dsimp only)
    go_wp2_with fail
    clear q_f l_f
    have lq_f := v_f.lt
    refine (putLim_any h_a ⟨lmn, lmx, lh⟩ (by simp)).mono ?_
    rintro e w8 ⟨rfl, u8_a, hh, tt⟩; rw [Oct.putLim_no HW.out] at hh
    replace v_f := v_f.trn tt D_a_f
    replace h_r := h_r.besideD tt D_a_r
    replace D_a_f : DJ (Ft p_a u8_a) (· = w.heap.size) := D_a_f.step tt (fun k hk => by subst hk; exact lq_f)
    replace D_a_r : DJ (Ft p_a u8_a) (Ft p_r u_r) := D_a_r.step tt lt_r
    clear h_a
    have h_a := hh
    replace bw := bw.trans (tt.bel.mono sb_a)
    replace sz := bw.size
    clear hh tt lq_f
    clear lt_r
    have lt_r : ∀ k, (Ft p_r u_r) k → k < w8.heap.size := fun k hk => (h_r.ft hk).2
    clear lt_a
    have lt_a : ∀ k, (Ft p_a u8_a) k → k < w8.heap.size := fun k hk => (h_a.ft hk).2
    have q_f := v_f.cells
    have l_f := v_f.lt
    (try dsimp only)
    go_wp2_with fail
    clear q_f l_f
    have lq_f := v_f.lt
    refine (putTable_any h_a tel ⟨tmn, tmx, th⟩ (by simp)).mono ?_
    rintro e w9 ⟨rfl, u9_a, hh, tt⟩; rw [Oct.putTable_no HW.out] at hh
    replace v_f := v_f.trn tt D_a_f
    replace h_r := h_r.besideD tt D_a_r
    replace D_a_f : DJ (Ft p_a u9_a) (· = w.heap.size) := D_a_f.step tt (fun k hk => by subst hk; exact lq_f)
    replace D_a_r : DJ (Ft p_a u9_a) (Ft p_r u_r) := D_a_r.step tt lt_r
    clear h_a
    have h_a := hh
    replace bw := bw.trans (tt.bel.mono sb_a)
    replace sz := bw.size
    clear hh tt lq_f
    clear lt_r
    have lt_r : ∀ k, (Ft p_r u_r) k → k < w9.heap.size := fun k hk => (h_r.ft hk).2
    clear lt_a
    have lt_a : ∀ k, (Ft p_a u9_a) k → k < w9.heap.size := fun k hk => (h_a.ft hk).2
    have q_f := v_f.cells
    have l_f := v_f.lt
    (try dsimp only)
    go_wp2_with fail
    clear q_f l_f
    have lq_f := v_f.lt
    refine (putGlobal_any h_a gv gm (by simp)).mono ?_
    rintro e w10 ⟨rfl, u10_a, hh, tt⟩; rw [Oct.putGlobal_no HW.out] at hh
    replace v_f := v_f.trn tt D_a_f
    replace h_r := h_r.besideD tt D_a_r
    replace D_a_f : DJ (Ft p_a u10_a) (· = w.heap.size) := D_a_f.step tt (fun k hk => by subst hk; exact lq_f)
    replace D_a_r : DJ (Ft p_a u10_a) (Ft p_r u_r) := D_a_r.step tt lt_r
    clear h_a
    have h_a := hh
    replace bw := bw.trans (tt.bel.mono sb_a)
    replace sz := bw.size
    clear hh tt lq_f
    clear lt_r
    have lt_r : ∀ k, (Ft p_r u_r) k → k < w10.heap.size := fun k hk => (h_r.ft hk).2
    clear lt_a
    have lt_a : ∀ k, (Ft p_a u10_a) k → k < w10.heap.size := fun k hk => (h_a.ft hk).2
    have q_f := v_f.cells
    have l_f := v_f.lt
    (try dsimp only)
    go_wp2_with fail
    clear q_f l_f
    have lq_f := v_f.lt
    refine (putBlock_any h_a ⟨bk, bt, bi⟩ (by simp)).mono ?_
    rintro e w11 ⟨rfl, u11_a, hh, tt⟩; rw [Oct.putBlock_no HW.out] at hh
    replace v_f := v_f.trn tt D_a_f
    replace h_r := h_r.besideD tt D_a_r
    replace D_a_f : DJ (Ft p_a u11_a) (· = w.heap.size) := D_a_f.step tt (fun k hk => by subst hk; exact lq_f)
    replace D_a_r : DJ (Ft p_a u11_a) (Ft p_r u_r) := D_a_r.step tt lt_r
    clear h_a
    have h_a := hh
    replace bw := bw.trans (tt.bel.mono sb_a)
    replace sz := bw.size
    clear hh tt lq_f
    clear lt_r
    have lt_r : ∀ k, (Ft p_r u_r) k → k < w11.heap.size := fun k hk => (h_r.ft hk).2
    clear lt_a
    have lt_a : ∀ k, (Ft p_a u11_a) k → k < w11.heap.size := fun k hk => (h_a.ft hk).2
    have q_f := v_f.cells
    have l_f := v_f.lt
    (try dsimp only)
    go_wp2_with fail
    clear q_f l_f
    have lq_f := v_f.lt
    refine (getFunc_any h_r).mono ?_
    rintro e w12 ⟨X1, e1, X2, e2, rfl, -, -, st⟩
    rw [Oct.getFunc_no HRR.out] at st; obtain ⟨hh, tt⟩ := st; rw [Oct.getFunc_no HRR.out]
    replace v_f := v_f.trn tt D_r_f
    replace h_a := h_a.besideD tt D_a_r.symm
    replace D_r_f : DJ (Ft p_r u_r) (· = w.heap.size) := D_r_f.step tt (fun k hk => by subst hk; exact lq_f)
    replace D_a_r : DJ (Ft p_a u11_a) (Ft p_r u_r) := (D_a_r.symm.step tt lt_a).symm
    clear h_r
    have h_r := hh
    replace bw := bw.trans (tt.bel.mono sb_r)
    replace sz := bw.size
    clear hh tt lq_f
    clear lt_r
    have lt_r : ∀ k, (Ft p_r u_r) k → k < w12.heap.size := fun k hk => (h_r.ft hk).2
    clear lt_a
    have lt_a : ∀ k, (Ft p_a u11_a) k → k < w12.heap.size := fun k hk => (h_a.ft hk).2
    have q_f := v_f.cells
    have l_f := v_f.lt
    have d_f_y := v_f.lt
    (try dsimp only)
    go_wp2_with fail
    refine at_world (F := fun w' => Var w' (w.heap.size) #[.slice F1 ps.length d1, .slice F2 rs.length d2, .int .i64 lmn, .int .i64 lmx, .bool lh, .int .i64 tel, .int .i64 tmn, .int .i64 tmx, .bool th, .int .i64 gv, .bool gm, .int .i64 bk, .int .i64 bt, .int .i64 bi] 90 ∧ Var w' (w12.heap.size) #[.slice X1 0 e1, .slice X2 0 e2] 76 ∧ RdrAt w' w1.heap.size p_r u_r b ⟨0, code⟩ ∧ WrAt w' w2.heap.size p_a u11_a ⟨[], code⟩ ∧ w12.heap.size ≤ w'.heap.size ∧ Below w.heap.size w w') ⟨(v_f).alloc _, Var.newE _ _ _ rfl, h_r.below (by go_grown), h_a.below (by go_grown), by go_size, by go_grown⟩ ?_
    clear q_f l_f v_f h_r  h_a bw sz
    rintro w13 ⟨v_f, v_y, h_r, h_a, szn, bw⟩
    have sz := bw.size
    have D_r_y : DJ (Ft p_r u_r) (· = w12.heap.size) := DJ.fresh lt_r (N := w12.heap.size) (fun k hk => by subst hk; omega)
    have D_a_y : DJ (Ft p_a u11_a) (· = w12.heap.size) := DJ.fresh lt_a (N := w12.heap.size) (fun k hk => by subst hk; omega)
    clear lt_r
    have lt_r : ∀ k, (Ft p_r u_r) k → k < w13.heap.size := fun k hk => (h_r.ft hk).2
    clear lt_a
    have lt_a : ∀ k, (Ft p_a u11_a) k → k < w13.heap.size := fun k hk => (h_a.ft hk).2
    clear szn
    have lq_f := v_f.lt
    have lq_y := v_y.lt
    refine (getVal_any h_r).mono ?_
    rintro e w14 ⟨rfl, st⟩
    rw [Oct.getVal_no HRR.out] at st; obtain ⟨hh, tt⟩ := st; rw [Oct.getVal_no HRR.out]
    replace v_f := v_f.trn tt D_r_f
    replace v_y := v_y.trn tt D_r_y
    replace h_a := h_a.besideD tt D_a_r.symm
    replace D_r_f : DJ (Ft p_r u_r) (· = w.heap.size) := D_r_f.step tt (fun k hk => by subst hk; exact lq_f)
    replace D_r_y : DJ (Ft p_r u_r) (· = w12.heap.size) := D_r_y.step tt (fun k hk => by subst hk; exact lq_y)
    replace D_a_r : DJ (Ft p_a u11_a) (Ft p_r u_r) := (D_a_r.symm.step tt lt_a).symm
    clear h_r
    have h_r := hh
    replace bw := bw.trans (tt.bel.mono sb_r)
    replace sz := bw.size
    clear hh tt lq_f lq_y
    clear lt_r
    have lt_r : ∀ k, (Ft p_r u_r) k → k < w14.heap.size := fun k hk => (h_r.ft hk).2
    clear lt_a
    have lt_a : ∀ k, (Ft p_a u11_a) k → k < w14.heap.size := fun k hk => (h_a.ft hk).2
    have q_f := v_f.cells
    have l_f := v_f.lt
    have q_y := v_y.cells
    have l_y := v_y.lt
    (try dsimp only)
    go_wp2_with fail
    clear q_f l_f q_y l_y
    have lq_f := v_f.lt
    have lq_y := v_y.lt
    refine (getLim_any h_r).mono ?_
    rintro e w15 ⟨rfl, st⟩
    rw [Oct.getLim_no HRR.out] at st; obtain ⟨hh, tt⟩ := st; rw [Oct.getLim_no HRR.out]
    replace v_f := v_f.trn tt D_r_f
    replace v_y := v_y.trn tt D_r_y
    replace h_a := h_a.besideD tt D_a_r.symm
    replace D_r_f : DJ (Ft p_r u_r) (· = w.heap.size) := D_r_f.step tt (fun k hk => by subst hk; exact lq_f)
    replace D_r_y : DJ (Ft p_r u_r) (· = w12.heap.size) := D_r_y.step tt (fun k hk => by subst hk; exact lq_y)
    replace D_a_r : DJ (Ft p_a u11_a) (Ft p_r u_r) := (D_a_r.symm.step tt lt_a).symm
    clear h_r
    have h_r := hh
    replace bw := bw.trans (tt.bel.mono sb_r)
    replace sz := bw.size
    clear hh tt lq_f lq_y
    clear lt_r
    have lt_r : ∀ k, (Ft p_r u_r) k → k < w15.heap.size := fun k hk => (h_r.ft hk).2
    clear lt_a
    have lt_a : ∀ k, (Ft p_a u11_a) k → k < w15.heap.size := fun k hk => (h_a.ft hk).2
    have q_f := v_f.cells
    have l_f := v_f.lt
    have q_y := v_y.cells
    have l_y := v_y.lt
    (try dsimp only)
    go_wp2_with fail
    clear q_f l_f q_y l_y
    have lq_f := v_f.lt
    have lq_y := v_y.lt
    refine (getTable_any h_r).mono ?_
    rintro e w16 ⟨rfl, st⟩
    rw [Oct.getTable_no HRR.out] at st; obtain ⟨hh, tt⟩ := st; rw [Oct.getTable_no HRR.out]
    replace v_f := v_f.trn tt D_r_f
    replace v_y := v_y.trn tt D_r_y
    replace h_a := h_a.besideD tt D_a_r.symm
    replace D_r_f : DJ (Ft p_r u_r) (· = w.heap.size) := D_r_f.step tt (fun k hk => by subst hk; exact lq_f)
    replace D_r_y : DJ (Ft p_r u_r) (· = w12.heap.size) := D_r_y.step tt (fun k hk => by subst hk; exact lq_y)
    replace D_a_r : DJ (Ft p_a u11_a) (Ft p_r u_r) := (D_a_r.symm.step tt lt_a).symm
    clear h_r
    have h_r := hh
    replace bw := bw.trans (tt.bel.mono sb_r)
    replace sz := bw.size
    clear hh tt lq_f lq_y
    clear lt_r
    have lt_r : ∀ k, (Ft p_r u_r) k → k < w16.heap.size := fun k hk => (h_r.ft hk).2
    clear lt_a
    have lt_a : ∀ k, (Ft p_a u11_a) k → k < w16.heap.size := fun k hk => (h_a.ft hk).2
    have q_f := v_f.cells
    have l_f := v_f.lt
    have q_y := v_y.cells
    have l_y := v_y.lt
    (try dsimp only)
    go_wp2_with fail
    clear q_f l_f q_y l_y
    have lq_f := v_f.lt
    have lq_y := v_y.lt
    refine (getGlobal_any h_r).mono ?_
    rintro e w17 ⟨rfl, st⟩
    rw [Oct.getGlobal_no HRR.out] at st; obtain ⟨hh, tt⟩ := st; rw [Oct.getGlobal_no HRR.out]
    replace v_f := v_f.trn tt D_r_f
    replace v_y := v_y.trn tt D_r_y
    replace h_a := h_a.besideD tt D_a_r.symm
    replace D_r_f : DJ (Ft p_r u_r) (· = w.heap.size) := D_r_f.step tt (fun k hk => by subst hk; exact lq_f)
    replace D_r_y : DJ (Ft p_r u_r) (· = w12.heap.size) := D_r_y.step tt (fun k hk => by subst hk; exact lq_y)
    replace D_a_r : DJ (Ft p_a u11_a) (Ft p_r u_r) := (D_a_r.symm.step tt lt_a).symm
    clear h_r
    have h_r := hh
    replace bw := bw.trans (tt.bel.mono sb_r)
    replace sz := bw.size
    clear hh tt lq_f lq_y
    clear lt_r
    have lt_r : ∀ k, (Ft p_r u_r) k → k < w17.heap.size := fun k hk => (h_r.ft hk).2
    clear lt_a
    have lt_a : ∀ k, (Ft p_a u11_a) k → k < w17.heap.size := fun k hk => (h_a.ft hk).2
    have q_f := v_f.cells
    have l_f := v_f.lt
    have q_y := v_y.cells
    have l_y := v_y.lt
    (try dsimp only)
    go_wp2_with fail
    clear q_f l_f q_y l_y
    have lq_f := v_f.lt
    have lq_y := v_y.lt
    refine (getBlock_any h_r).mono ?_
    rintro e w18 ⟨rfl, st⟩
    rw [Oct.getBlock_no HRR.out] at st; obtain ⟨hh, tt⟩ := st; rw [Oct.getBlock_no HRR.out]
    replace v_f := v_f.trn tt D_r_f
    replace v_y := v_y.trn tt D_r_y
    replace h_a := h_a.besideD tt D_a_r.symm
    replace D_r_f : DJ (Ft p_r u_r) (· = w.heap.size) := D_r_f.step tt (fun k hk => by subst hk; exact lq_f)
    replace D_r_y : DJ (Ft p_r u_r) (· = w12.heap.size) := D_r_y.step tt (fun k hk => by subst hk; exact lq_y)
    replace D_a_r : DJ (Ft p_a u11_a) (Ft p_r u_r) := (D_a_r.symm.step tt lt_a).symm
    clear h_r
    have h_r := hh
    replace bw := bw.trans (tt.bel.mono sb_r)
    replace sz := bw.size
    clear hh tt lq_f lq_y
    clear lt_r
    have lt_r : ∀ k, (Ft p_r u_r) k → k < w18.heap.size := fun k hk => (h_r.ft hk).2
    clear lt_a
    have lt_a : ∀ k, (Ft p_a u11_a) k → k < w18.heap.size := fun k hk => (h_a.ft hk).2
    have q_f := v_f.cells
    have l_f := v_f.lt
    have q_y := v_y.cells
    have l_y := v_y.lt
    (try dsimp only)
    go_wp2_with fail
    clear q_f l_f q_y l_y
    refine (wdone_any h_a (by simp)).mono ?_
    rintro e w19 ⟨A2, c2, rfl, hA2, hb⟩
    replace v_f := v_f.below hb v_f.lt
    replace v_y := v_y.below hb v_y.lt
    replace h_r := h_r.below hb
    replace h_a := h_a.below hb
    replace bw := bw.trans (hb.mono bw.size)
    replace sz := bw.size
    clear hb
    clear lt_r
    have lt_r : ∀ k, (Ft p_r u_r) k → k < w19.heap.size := fun k hk => (h_r.ft hk).2
    clear lt_a
    have lt_a : ∀ k, (Ft p_a u11_a) k → k < w19.heap.size := fun k hk => (h_a.ft hk).2
    have q_f := v_f.cells
    have l_f := v_f.lt
    have q_y := v_y.cells
    have l_y := v_y.lt
    (try dsimp only)
    go_wp2_with fail
    clear q_f l_f q_y l_y
    refine (err_any h_r).mono ?_
    rintro e wq ⟨rfl, rfl⟩
    have q_f := v_f.cells
    have l_f := v_f.lt
    have q_y := v_y.cells
    have l_y := v_y.lt
    (try dsimp only)
    go_wp2_with fail
    clear q_f l_f q_y l_y
    refine (at_any h_r).mono ?_
    rintro e wq ⟨rfl, rfl⟩
    have q_f := v_f.cells
    have l_f := v_f.lt
    have q_y := v_y.cells
    have l_y := v_y.lt
    (try dsimp only)
    go_wp2_with fail
    clear q_f l_f q_y l_y
    refine (alive_any _).mono ?_
    rintro e w20 ⟨rfl, hb⟩
    replace v_f := v_f.below hb v_f.lt
    replace v_y := v_y.below hb v_y.lt
    replace h_r := h_r.below hb
    replace h_a := h_a.below hb
    replace bw := bw.trans (hb.mono bw.size)
    replace sz := bw.size
    clear hb
    clear lt_r
    have lt_r : ∀ k, (Ft p_r u_r) k → k < w20.heap.size := fun k hk => (h_r.ft hk).2
    clear lt_a
    have lt_a : ∀ k, (Ft p_a u11_a) k → k < w20.heap.size := fun k hk => (h_a.ft hk).2
    have q_f := v_f.cells
    have l_f := v_f.lt
    have q_y := v_y.cells
    have l_y := v_y.lt
    go_wp2
    go_ret
    exact ⟨rfl, bw⟩
end Go.Proofs.Ytagcildoebicnaa
