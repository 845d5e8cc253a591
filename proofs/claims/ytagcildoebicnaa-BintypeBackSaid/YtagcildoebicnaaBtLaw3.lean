/-
  The walk of the law BintypeFuncs.
-/
import Derived.Test.YtagcildoebicnaaBtLaw2
set_option linter.unusedVariables false
set_option linter.unusedSimpArgs false
namespace Go.Proofs.Ytagcildoebicnaa
open Go.RowKit

theorem refSame_len (A1 A2 B1 B2 : Option Addr) (c1 c2 d1 d2 n1 n2 m1 m2 : Nat) (ps rs : List Int) (w : World) (e1 : ps.length = n1) (e2 : rs.length = n2) (h1 : RdI w w.heap.size A1 ps) (h2 : RdI w w.heap.size A2 rs) (h3 : RdI w w.heap.size B1 ps) (h4 : RdI w w.heap.size B2 rs) (hp : ps.length ≤ 1000) (hr : rs.length ≤ 1000) :
    Calls Try.prog 41 #[.agg #[.slice A1 n1 c1, .slice A2 n2 c2], .agg #[.slice B1 n1 d1, .slice B2 n2 d2]] w fun e w' => e = .returned (.bool true) ∧ Below w.heap.size w w' := by
  subst e1 e2
  refine (refSame_any A1 A2 B1 B2 c1 c2 d1 d2 ps rs ps rs w h1 h2 h3 h4 hp hr).mono ?_
  rintro e w' ⟨rfl, hb⟩
  exact ⟨by simp, hb⟩

theorem Oct.getFunc_len (b : List UInt8) (s : Oct.St) : (Oct.getFunc b s).2.1.length ≤ 8 ∧ (Oct.getFunc b s).2.2.length ≤ 8 := by
  unfold Oct.getFunc
  dsimp only
  split
  · exact ⟨Oct.getVals_len _ _, Oct.getVals_len _ _⟩
  · exact ⟨by simp, by simp⟩

set_option maxHeartbeats 8000000 in
set_option maxRecDepth 100000 in
theorem bintypeFuncs_walk (A F1 F2 : Option Addr) (c d1 d2 : Nat) (b : List UInt8) (ps rs : List Int) (w : World) (hr : RdB w w.heap.size A b) (hc : b.length ≤ c) (hm : c ≤ maxLen) (hp : RdI w w.heap.size F1 ps) (hq : RdI w w.heap.size F2 rs) (hpm : ps.length ≤ maxLen) (hqm : rs.length ≤ maxLen) :
    Calls Try.prog 7 #[.slice A b.length c, .agg #[.slice F1 ps.length d1, .slice F2 rs.length d2]] w fun e w' => e = .returned (.bool true) ∧ Below w.heap.size w w' := by
  have hbm : b.length ≤ 9223372036854775807 := by unfold maxLen at hm; omega
  have hpm' : ps.length ≤ 9223372036854775807 := by unfold maxLen at hpm; omega
  have hqm' : rs.length ≤ 9223372036854775807 := by unfold maxLen at hqm; omega
  clear hm hpm hqm
  by_cases h1 : 60 < b.length
  · skip
    have g1 : decide (60 < b.length) = true := by simpa using h1
    have g1b : decide ((60 : Int) < (b.length : Int)) = true := by simp; omega
    clear h1
    go_enter Try.func7, Try.ntmps7
    (try dsimp only)
    go_wp2_with fail
    refine at_world (F := fun w' => Var w' (w.heap.size) #[.slice F1 ps.length d1, .slice F2 rs.length d2] 76 ∧ Below w.heap.size w w') ⟨Var.new w _ _, by go_grown⟩ ?_
    rintro w1 ⟨v_f, bw⟩
    have sz := bw.size
    refine (alive_any _).mono ?_
    rintro e w2 ⟨rfl, hb⟩
    replace v_f := v_f.below hb v_f.lt
    replace bw := bw.trans (hb.mono bw.size)
    replace sz := bw.size
    clear hb
    have q_f := v_f.cells
    have l_f := v_f.lt
    go_wp2
    go_ret
    exact ⟨rfl, bw⟩
  have g1 : decide (60 < b.length) = false := by simpa using h1
  have g1b : decide ((60 : Int) < (b.length : Int)) = false := by simp; omega
  by_cases h2 : 60 < ps.length
  · skip
    have g2 : decide (60 < ps.length) = true := by simpa using h2
    have g2b : decide ((60 : Int) < (ps.length : Int)) = true := by simp; omega
    clear h1 h2
    go_enter Try.func7, Try.ntmps7
    (try dsimp only)
    go_wp2_with fail
    refine at_world (F := fun w' => Var w' (w.heap.size) #[.slice F1 ps.length d1, .slice F2 rs.length d2] 76 ∧ Below w.heap.size w w') ⟨Var.new w _ _, by go_grown⟩ ?_
    rintro w1 ⟨v_f, bw⟩
    have sz := bw.size
    refine (alive_any _).mono ?_
    rintro e w2 ⟨rfl, hb⟩
    replace v_f := v_f.below hb v_f.lt
    replace bw := bw.trans (hb.mono bw.size)
    replace sz := bw.size
    clear hb
    have q_f := v_f.cells
    have l_f := v_f.lt
    go_wp2
    go_ret
    exact ⟨rfl, bw⟩
  have g2 : decide (60 < ps.length) = false := by simpa using h2
  have g2b : decide ((60 : Int) < (ps.length : Int)) = false := by simp; omega
  by_cases h3 : 60 < rs.length
  · skip
    have g3 : decide (60 < rs.length) = true := by simpa using h3
    have g3b : decide ((60 : Int) < (rs.length : Int)) = true := by simp; omega
    clear h1 h2 h3
    go_enter Try.func7, Try.ntmps7
    (try dsimp only)
    go_wp2_with fail
    refine at_world (F := fun w' => Var w' (w.heap.size) #[.slice F1 ps.length d1, .slice F2 rs.length d2] 76 ∧ Below w.heap.size w w') ⟨Var.new w _ _, by go_grown⟩ ?_
    rintro w1 ⟨v_f, bw⟩
    have sz := bw.size
    refine (alive_any _).mono ?_
    rintro e w2 ⟨rfl, hb⟩
    replace v_f := v_f.below hb v_f.lt
    replace bw := bw.trans (hb.mono bw.size)
    replace sz := bw.size
    clear hb
    have q_f := v_f.cells
    have l_f := v_f.lt
    go_wp2
    go_ret
    exact ⟨rfl, bw⟩
  have g3 : decide (60 < rs.length) = false := by simpa using h3
  have g3b : decide ((60 : Int) < (rs.length : Int)) = false := by simp; omega
  have hb6 : b.length ≤ 1000000 := by omega
  have hp6 : ps.length ≤ 60 := by omega
  have hq6 : rs.length ≤ 60 := by omega
  clear h1 h2 h3
  have HR := Lib.hid hr
  have HP := Lib.hid hp
  have HQ := Lib.hid hq
  clear hr hp hq
  have hgl := Oct.getFunc_len b ⟨0, 0⟩
  obtain ⟨⟨s1, xs, ys⟩, hy⟩ : ∃ y, Oct.getFunc b ⟨0, 0⟩ = y := ⟨_, rfl⟩
  rw [hy] at hgl
  obtain ⟨hx8, hy8⟩ := hgl
  dsimp only at hx8 hy8
  have HY := Lib.hid hy
  clear hy
  have hpl : (Oct.putFunc ⟨[], 0⟩ ps rs).b.length ≤ 1000 := by have := Oct.putFunc_len ⟨[], 0⟩ ps rs; simp at this; omega
  go_enter Try.func7, Try.ntmps7
  (try dsimp only)
  go_wp2_with fail
  refine at_world (F := fun w' => Var w' (w.heap.size) #[.slice F1 ps.length d1, .slice F2 rs.length d2] 76 ∧ Below w.heap.size w w') ⟨Var.new w _ _, by go_grown⟩ ?_
  rintro w1 ⟨v_f, bw⟩
  have sz := bw.size
  have lq_f := v_f.lt
  refine (new_any w1 _ (Nat.le_refl _)).mono ?_
  rintro e w2 ⟨p_a, u_a, rfl, h_a, hb, hf⟩
  replace v_f := v_f.below hb v_f.lt
  have D_a_f : DJ (Ft p_a u_a) (· = w.heap.size) := (DJ.fresh (N := w1.heap.size) (fun k hk => by subst hk; exact lq_f) hf).symm
  have sb_a : w.heap.size ≤ w1.heap.size := sz
  replace bw := bw.trans (hb.mono bw.size)
  replace sz := bw.size
  clear hb hf lq_f
  skip
  have lt_a : ∀ k, (Ft p_a u_a) k → k < w2.heap.size := fun k hk => (h_a.ft hk).2
  have q_f := v_f.cells
  have l_f := v_f.lt
  (try dsimp only)
  go_wp2_with fail
  clear q_f l_f
  have lq_f := v_f.lt
  refine (read_any w2 _ (Nat.le_refl _) A c _ b rfl ((HR.out.below bw).more bw.size) hb6).mono ?_
  rintro e w3 ⟨p_r, u_r, rfl, h_r, hb, hf⟩
  replace v_f := v_f.below hb v_f.lt
  replace h_a := h_a.below hb
  have D_r_f : DJ (Ft p_r u_r) (· = w.heap.size) := (DJ.fresh (N := w2.heap.size) (fun k hk => by subst hk; exact lq_f) hf).symm
  have D_r_a : DJ (Ft p_r u_r) (Ft p_a u_a) := (DJ.fresh lt_a (N := w2.heap.size) hf).symm
  have sb_r : w.heap.size ≤ w2.heap.size := sz
  replace bw := bw.trans (hb.mono bw.size)
  replace sz := bw.size
  clear hb hf lq_f
  clear lt_a
  have lt_a : ∀ k, (Ft p_a u_a) k → k < w3.heap.size := fun k hk => (h_a.ft hk).2
  skip
  have lt_r : ∀ k, (Ft p_r u_r) k → k < w3.heap.size := fun k hk => (h_r.ft hk).2
  have q_f := v_f.cells
  have l_f := v_f.lt
  (try dsimp only)
  go_wp2_with fail
  clear q_f l_f
  have lq_f := v_f.lt
  refine (putFunc_any h_a F1 F2 d1 d2 ps rs (Lst.param HP.out bw (fun k hk => Nat.le_trans sb_a (h_a.ft hk).1)) (Lst.param HQ.out bw (fun k hk => Nat.le_trans sb_a (h_a.ft hk).1)) (by simp) (by omega) (by omega)).mono ?_
  rintro e w4 ⟨rfl, u4_a, hh, tt⟩
  replace v_f := v_f.trn tt D_a_f
  replace h_r := h_r.besideD tt D_r_a.symm
  replace D_a_f : DJ (Ft p_a u4_a) (· = w.heap.size) := D_a_f.step tt (fun k hk => by subst hk; exact lq_f)
  replace D_r_a : DJ (Ft p_r u_r) (Ft p_a u4_a) := (D_r_a.symm.step tt lt_r).symm
  clear h_a
  have h_a := hh
  replace bw := bw.trans (tt.bel.mono sb_a)
  replace sz := bw.size
  clear hh tt lq_f
  clear lt_a
  have lt_a : ∀ k, (Ft p_a u4_a) k → k < w4.heap.size := fun k hk => (h_a.ft hk).2
  clear lt_r
  have lt_r : ∀ k, (Ft p_r u_r) k → k < w4.heap.size := fun k hk => (h_r.ft hk).2
  have q_f := v_f.cells
  have l_f := v_f.lt
  (try dsimp only)
  go_wp2_with fail
  clear q_f l_f
  have lq_f := v_f.lt
  refine (getFunc_any h_r).mono ?_
  rintro e w5 ⟨X1, e1, X2, e2, rfl, L1, L2, st⟩
  rw [HY.out] at st L1 L2; obtain ⟨hh, tt⟩ := st; rw [HY.out]; have R_x1 := L1.rd; have R_x2 := L2.rd; clear L1 L2; dsimp only at R_x1 R_x2
  replace v_f := v_f.trn tt D_r_f
  replace h_a := h_a.besideD tt D_r_a
  replace D_r_f : DJ (Ft p_r u_r) (· = w.heap.size) := D_r_f.step tt (fun k hk => by subst hk; exact lq_f)
  replace D_r_a : DJ (Ft p_r u_r) (Ft p_a u4_a) := D_r_a.step tt lt_a
  clear h_r
  have h_r := hh
  replace bw := bw.trans (tt.bel.mono sb_r)
  replace sz := bw.size
  clear hh tt lq_f
  clear lt_a
  have lt_a : ∀ k, (Ft p_a u4_a) k → k < w5.heap.size := fun k hk => (h_a.ft hk).2
  clear lt_r
  have lt_r : ∀ k, (Ft p_r u_r) k → k < w5.heap.size := fun k hk => (h_r.ft hk).2
  have q_f := v_f.cells
  have l_f := v_f.lt
  have d_f_x := v_f.lt
  (try dsimp only)
  go_wp2_with fail
  refine at_world (F := fun w' => Var w' (w.heap.size) #[.slice F1 ps.length d1, .slice F2 rs.length d2] 76 ∧ Var w' (w5.heap.size) #[.slice X1 xs.length e1, .slice X2 ys.length e2] 76 ∧ WrAt w' w1.heap.size p_a u4_a (Oct.putFunc ⟨[], 0⟩ ps rs) ∧ RdrAt w' w2.heap.size p_r u_r b s1 ∧ RdI w' w'.heap.size X1 xs ∧ RdI w' w'.heap.size X2 ys ∧ w5.heap.size ≤ w'.heap.size ∧ Below w.heap.size w w') ⟨(v_f).alloc _, Var.newE _ _ _ rfl, h_a.below (by go_grown), h_r.below (by go_grown), (R_x1.below (by go_grown)).more (by go_size), (R_x2.below (by go_grown)).more (by go_size), by go_size, by go_grown⟩ ?_
  clear q_f l_f v_f h_a  h_r bw sz
  rintro w6 ⟨v_f, v_x, h_a, h_r, R_x1, R_x2, szn, bw⟩
  have sz := bw.size
  have D_a_x : DJ (Ft p_a u4_a) (· = w5.heap.size) := DJ.fresh lt_a (N := w5.heap.size) (fun k hk => by subst hk; omega)
  have D_r_x : DJ (Ft p_r u_r) (· = w5.heap.size) := DJ.fresh lt_r (N := w5.heap.size) (fun k hk => by subst hk; omega)
  clear lt_a
  have lt_a : ∀ k, (Ft p_a u4_a) k → k < w6.heap.size := fun k hk => (h_a.ft hk).2
  clear lt_r
  have lt_r : ∀ k, (Ft p_r u_r) k → k < w6.heap.size := fun k hk => (h_r.ft hk).2
  clear szn
  refine (refRead_any A b.length c _).mono ?_
  rintro e w7 ⟨rfl, hb⟩
  replace v_f := v_f.below hb v_f.lt
  replace v_x := v_x.below hb v_x.lt
  replace h_a := h_a.below hb
  replace h_r := h_r.below hb
  replace R_x1 := (R_x1.below hb).more hb.size
  replace R_x2 := (R_x2.below hb).more hb.size
  replace bw := bw.trans (hb.mono bw.size)
  replace sz := bw.size
  clear hb
  clear lt_a
  have lt_a : ∀ k, (Ft p_a u4_a) k → k < w7.heap.size := fun k hk => (h_a.ft hk).2
  clear lt_r
  have lt_r : ∀ k, (Ft p_r u_r) k → k < w7.heap.size := fun k hk => (h_r.ft hk).2
  have q_f := v_f.cells
  have l_f := v_f.lt
  have q_x := v_x.cells
  have l_x := v_x.lt
  (try dsimp only)
  go_wp2_with fail
  clear q_f l_f q_x l_x
  refine (refGetFunc_any A b.length c b ⟨0, 0⟩ _ rfl ((HR.out.below bw).more bw.size) (Nat.zero_le _) hc hb6).mono ?_
  rintro e w8 ⟨Y1, i1, Y2, i2, rfl, R_y1, R_y2, hb⟩
  replace v_f := v_f.below hb v_f.lt
  replace v_x := v_x.below hb v_x.lt
  replace h_a := h_a.below hb
  replace h_r := h_r.below hb
  replace R_x1 := (R_x1.below hb).more hb.size
  replace R_x2 := (R_x2.below hb).more hb.size
  rw [HY.out] at R_y1 R_y2
  rw [HY.out]
  dsimp only at R_y1 R_y2
  replace bw := bw.trans (hb.mono bw.size)
  replace sz := bw.size
  clear hb
  clear lt_a
  have lt_a : ∀ k, (Ft p_a u4_a) k → k < w8.heap.size := fun k hk => (h_a.ft hk).2
  clear lt_r
  have lt_r : ∀ k, (Ft p_r u_r) k → k < w8.heap.size := fun k hk => (h_r.ft hk).2
  have q_f := v_f.cells
  have l_f := v_f.lt
  have q_x := v_x.cells
  have l_x := v_x.lt
  have d_f_s := v_f.lt
  have d_x_s := v_x.lt
  have d_f_z := v_f.lt
  have d_x_z := v_x.lt
  (try dsimp only)
  go_wp2_with fail
  refine at_world (F := fun w' => Var w' (w.heap.size) #[.slice F1 ps.length d1, .slice F2 rs.length d2] 76 ∧ Var w' (w5.heap.size) #[.slice X1 xs.length e1, .slice X2 ys.length e2] 76 ∧ Var w' (w8.heap.size) #[.slice A b.length c, .int .i64 (s1.at_ : Int), .int .i64 s1.err] 35 ∧ Var w' (w8.heap.size + 1) #[.slice Y1 xs.length i1, .slice Y2 ys.length i2] 76 ∧ WrAt w' w1.heap.size p_a u4_a (Oct.putFunc ⟨[], 0⟩ ps rs) ∧ RdrAt w' w2.heap.size p_r u_r b s1 ∧ RdI w' w'.heap.size X1 xs ∧ RdI w' w'.heap.size X2 ys ∧ RdI w' w'.heap.size Y1 xs ∧ RdI w' w'.heap.size Y2 ys ∧ w8.heap.size ≤ w'.heap.size ∧ Below w.heap.size w w') ⟨((v_f).alloc _).alloc _, ((v_x).alloc _).alloc _, (Var.newE _ _ _ rfl).alloc _, Var.newE2 _ _ _ _ rfl, h_a.below (by go_grown), h_r.below (by go_grown), (R_x1.below (by go_grown)).more (by go_size), (R_x2.below (by go_grown)).more (by go_size), (R_y1.below (by go_grown)).more (by go_size), (R_y2.below (by go_grown)).more (by go_size), by go_size, by go_grown⟩ ?_
  clear q_f l_f v_f q_x l_x v_x h_a  h_r bw sz
  rintro w9 ⟨v_f, v_x, v_s, v_z, h_a, h_r, R_x1, R_x2, R_y1, R_y2, szn, bw⟩
  have sz := bw.size
  have D_a_s : DJ (Ft p_a u4_a) (· = w8.heap.size) := DJ.fresh lt_a (N := w8.heap.size) (fun k hk => by subst hk; omega)
  have D_r_s : DJ (Ft p_r u_r) (· = w8.heap.size) := DJ.fresh lt_r (N := w8.heap.size) (fun k hk => by subst hk; omega)
  have D_a_z : DJ (Ft p_a u4_a) (· = w8.heap.size + 1) := DJ.fresh lt_a (N := w8.heap.size) (fun k hk => by subst hk; omega)
  have D_r_z : DJ (Ft p_r u_r) (· = w8.heap.size + 1) := DJ.fresh lt_r (N := w8.heap.size) (fun k hk => by subst hk; omega)
  clear lt_a
  have lt_a : ∀ k, (Ft p_a u4_a) k → k < w9.heap.size := fun k hk => (h_a.ft hk).2
  clear lt_r
  have lt_r : ∀ k, (Ft p_r u_r) k → k < w9.heap.size := fun k hk => (h_r.ft hk).2
  clear szn
  refine (refPutFunc_any none 0 0 ⟨[], 0⟩ _ rfl (RdB.nil_) (by simp) F1 F2 d1 d2 ps rs ((HP.out.below bw).more bw.size) ((HQ.out.below bw).more bw.size) (by omega) (by omega)).mono ?_
  rintro e w10 ⟨A2, c2, rfl, hA2, hb⟩
  replace v_f := v_f.below hb v_f.lt
  replace v_x := v_x.below hb v_x.lt
  replace v_s := v_s.below hb v_s.lt
  replace v_z := v_z.below hb v_z.lt
  replace h_a := h_a.below hb
  replace h_r := h_r.below hb
  replace R_x1 := (R_x1.below hb).more hb.size
  replace R_x2 := (R_x2.below hb).more hb.size
  replace R_y1 := (R_y1.below hb).more hb.size
  replace R_y2 := (R_y2.below hb).more hb.size
  replace bw := bw.trans (hb.mono bw.size)
  replace sz := bw.size
  clear hb
  clear lt_a
  have lt_a : ∀ k, (Ft p_a u4_a) k → k < w10.heap.size := fun k hk => (h_a.ft hk).2
  clear lt_r
  have lt_r : ∀ k, (Ft p_r u_r) k → k < w10.heap.size := fun k hk => (h_r.ft hk).2
  have q_f := v_f.cells
  have l_f := v_f.lt
  have q_x := v_x.cells
  have l_x := v_x.lt
  have q_s := v_s.cells
  have l_s := v_s.lt
  have q_z := v_z.cells
  have l_z := v_z.lt
  (try dsimp only)
  go_wp2_with fail
  clear q_f l_f q_x l_x q_s l_s q_z l_z
  refine (put_any h_a A2 c2 _ rfl hA2 (by omega)).mono ?_
  rintro e w11 ⟨rfl, hb⟩
  replace v_f := v_f.below hb v_f.lt
  replace v_x := v_x.below hb v_x.lt
  replace v_s := v_s.below hb v_s.lt
  replace v_z := v_z.below hb v_z.lt
  replace h_a := h_a.below hb
  replace h_r := h_r.below hb
  replace R_x1 := (R_x1.below hb).more hb.size
  replace R_x2 := (R_x2.below hb).more hb.size
  replace R_y1 := (R_y1.below hb).more hb.size
  replace R_y2 := (R_y2.below hb).more hb.size
  replace bw := bw.trans (hb.mono bw.size)
  replace sz := bw.size
  clear hb
  clear lt_a
  have lt_a : ∀ k, (Ft p_a u4_a) k → k < w11.heap.size := fun k hk => (h_a.ft hk).2
  clear lt_r
  have lt_r : ∀ k, (Ft p_r u_r) k → k < w11.heap.size := fun k hk => (h_r.ft hk).2
  have q_f := v_f.cells
  have l_f := v_f.lt
  have q_x := v_x.cells
  have l_x := v_x.lt
  have q_s := v_s.cells
  have l_s := v_s.lt
  have q_z := v_z.cells
  have l_z := v_z.lt
  (try dsimp only)
  go_wp2_with fail
  clear q_f l_f q_x l_x q_s l_s q_z l_z
  refine (refSame_len X1 X2 Y1 Y2 e1 e2 i1 i2 _ _ 0 0 xs ys _ rfl rfl R_x1 R_x2 R_y1 R_y2 (by omega) (by omega)).mono ?_
  rintro e w12 ⟨rfl, hb⟩
  replace v_f := v_f.below hb v_f.lt
  replace v_x := v_x.below hb v_x.lt
  replace v_s := v_s.below hb v_s.lt
  replace v_z := v_z.below hb v_z.lt
  replace h_a := h_a.below hb
  replace h_r := h_r.below hb
  replace R_x1 := (R_x1.below hb).more hb.size
  replace R_x2 := (R_x2.below hb).more hb.size
  replace R_y1 := (R_y1.below hb).more hb.size
  replace R_y2 := (R_y2.below hb).more hb.size
  replace bw := bw.trans (hb.mono bw.size)
  replace sz := bw.size
  clear hb
  clear lt_a
  have lt_a : ∀ k, (Ft p_a u4_a) k → k < w12.heap.size := fun k hk => (h_a.ft hk).2
  clear lt_r
  have lt_r : ∀ k, (Ft p_r u_r) k → k < w12.heap.size := fun k hk => (h_r.ft hk).2
  have q_f := v_f.cells
  have l_f := v_f.lt
  have q_x := v_x.cells
  have l_x := v_x.lt
  have q_s := v_s.cells
  have l_s := v_s.lt
  have q_z := v_z.cells
  have l_z := v_z.lt
  (try dsimp only)
  go_wp2_with fail
  clear q_f l_f q_x l_x q_s l_s q_z l_z
  refine (got_any h_r A c _).mono ?_
  rintro e w13 ⟨rfl, hb⟩
  replace v_f := v_f.below hb v_f.lt
  replace v_x := v_x.below hb v_x.lt
  replace v_s := v_s.below hb v_s.lt
  replace v_z := v_z.below hb v_z.lt
  replace h_a := h_a.below hb
  replace h_r := h_r.below hb
  replace R_x1 := (R_x1.below hb).more hb.size
  replace R_x2 := (R_x2.below hb).more hb.size
  replace R_y1 := (R_y1.below hb).more hb.size
  replace R_y2 := (R_y2.below hb).more hb.size
  replace bw := bw.trans (hb.mono bw.size)
  replace sz := bw.size
  clear hb
  clear lt_a
  have lt_a : ∀ k, (Ft p_a u4_a) k → k < w13.heap.size := fun k hk => (h_a.ft hk).2
  clear lt_r
  have lt_r : ∀ k, (Ft p_r u_r) k → k < w13.heap.size := fun k hk => (h_r.ft hk).2
  have q_f := v_f.cells
  have l_f := v_f.lt
  have q_x := v_x.cells
  have l_x := v_x.lt
  have q_s := v_s.cells
  have l_s := v_s.lt
  have q_z := v_z.cells
  have l_z := v_z.lt
  (try dsimp only)
  go_wp2_with fail
  clear q_f l_f q_x l_x q_s l_s q_z l_z
  refine (alive_any _).mono ?_
  rintro e w14 ⟨rfl, hb⟩
  replace v_f := v_f.below hb v_f.lt
  replace v_x := v_x.below hb v_x.lt
  replace v_s := v_s.below hb v_s.lt
  replace v_z := v_z.below hb v_z.lt
  replace h_a := h_a.below hb
  replace h_r := h_r.below hb
  replace R_x1 := (R_x1.below hb).more hb.size
  replace R_x2 := (R_x2.below hb).more hb.size
  replace R_y1 := (R_y1.below hb).more hb.size
  replace R_y2 := (R_y2.below hb).more hb.size
  replace bw := bw.trans (hb.mono bw.size)
  replace sz := bw.size
  clear hb
  clear lt_a
  have lt_a : ∀ k, (Ft p_a u4_a) k → k < w14.heap.size := fun k hk => (h_a.ft hk).2
  clear lt_r
  have lt_r : ∀ k, (Ft p_r u_r) k → k < w14.heap.size := fun k hk => (h_r.ft hk).2
  have q_f := v_f.cells
  have l_f := v_f.lt
  have q_x := v_x.cells
  have l_x := v_x.lt
  have q_s := v_s.cells
  have l_s := v_s.lt
  have q_z := v_z.cells
  have l_z := v_z.lt
  go_wp2
  go_ret
  exact ⟨rfl, bw⟩
end Go.Proofs.Ytagcildoebicnaa
