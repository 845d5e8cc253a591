/-
  The walks of the laws BintypeVals, BintypeGlobals and BintypeBlocks.
-/
import Derived.Test.YtagcildoebicnaaBtSep
set_option linter.unusedVariables false
set_option linter.unusedSimpArgs false
namespace Go.Proofs.Ytagcildoebicnaa
open Go.RowKit

theorem Oct.putS33_len (s : Oct.Wt) (n : Int) : (Oct.putS33 s n).b.length ≤ s.b.length + 10 := by
  unfold Oct.putS33
  split
  · rw [Oct.fail_len]; omega
  · have := Oct.bytes_len s (Leb.putS n)
    have h2 := Leb.putS_len10 n (by omega) (by omega)
    omega
theorem Oct.putBlock_len (s : Oct.Wt) (x : Oct.Blk) : (Oct.putBlock s x).b.length ≤ s.b.length + 10 := by
  unfold Oct.putBlock
  split
  · split
    · have := Oct.bytes_len s [64]; simp at this; omega
    · split
      · have := Oct.putVal_len s x.val; omega
      · exact Oct.putS33_len s x.idx
  · rw [Oct.fail_len]; omega
theorem Oct.putBlock_len1000 (x : Oct.Blk) (n : Nat) : (Oct.putBlock ⟨[], 0⟩ x).b.length ≤ 1000 := by have := Oct.putBlock_len ⟨[], 0⟩ x; simp at this; omega

set_option maxHeartbeats 8000000 in
set_option maxRecDepth 100000 in
theorem bintypeVals_walk (A : Option Addr) (c : Nat) (b : List UInt8) (t : Int) (w : World) (hr : RdB w w.heap.size A b) (hc : b.length ≤ c) (hm : c ≤ maxLen) :
    Calls Try.prog 4 #[.slice A b.length c, .int .i64 t] w fun e w' => e = .returned (.bool true) ∧ Below w.heap.size w w' := by
  have hbm : b.length ≤ 9223372036854775807 := by unfold maxLen at hm; omega
  clear hm
  by_cases h60 : 60 < b.length
  · have g1 : decide (60 < b.length) = true := by simpa using h60
    have g2 : decide ((60 : Int) < (b.length : Int)) = true := by simp; omega
    clear h60
    go_enter Try.func4, Try.ntmps4
    (try dsimp only)
    go_wp2_with fail
    refine at_world (F := fun w' => Below w.heap.size w w') (by go_grown) ?_
    rintro w1 bw
    have sz := bw.size
    refine (alive_any _).mono ?_
    rintro e w2 ⟨rfl, hb⟩
    replace bw := bw.trans (hb.mono bw.size)
    replace sz := bw.size
    clear hb
    go_wp2
    go_ret
    exact ⟨rfl, bw⟩
  have g1 : decide (60 < b.length) = false := by simpa using h60
  have g2 : decide ((60 : Int) < (b.length : Int)) = false := by simp; omega
  have hb6 : b.length ≤ 1000000 := by omega
  clear h60
  have HR := Lib.hid hr
  clear hr
  obtain ⟨⟨s1, x⟩, hy⟩ : ∃ y, Oct.getVal b ⟨0, 0⟩ = y := ⟨_, rfl⟩
  have HY := Lib.hid hy
  have hpl := Oct.putVal_len ⟨[], 0⟩ t
  clear hy
  go_enter Try.func4, Try.ntmps4
  (try dsimp only)
  go_wp2_with fail
  refine at_world (F := fun w' => Below w.heap.size w w') (by go_grown) ?_
  rintro w1 bw
  have sz := bw.size
  refine (new_any w1 _ (Nat.le_refl _)).mono ?_
  rintro e w2 ⟨p_a, u_a, rfl, h_a, hb, hf⟩
  have sb_a : w.heap.size ≤ w1.heap.size := sz
  replace bw := bw.trans (hb.mono bw.size)
  replace sz := bw.size
  clear hb hf
  skip
  have lt_a : ∀ k, (Ft p_a u_a) k → k < w2.heap.size := fun k hk => (h_a.ft hk).2
  (try dsimp only)
  go_wp2_with fail
  refine (read_any w2 _ (Nat.le_refl _) A c _ b rfl ((HR.out.below bw).more bw.size) hb6).mono ?_
  rintro e w3 ⟨p_r, u_r, rfl, h_r, hb, hf⟩
  replace h_a := h_a.below hb
  have D_r_a : DJ (Ft p_r u_r) (Ft p_a u_a) := (DJ.fresh lt_a (N := w2.heap.size) hf).symm
  have sb_r : w.heap.size ≤ w2.heap.size := sz
  replace bw := bw.trans (hb.mono bw.size)
  replace sz := bw.size
  clear hb hf
  clear lt_a
  have lt_a : ∀ k, (Ft p_a u_a) k → k < w3.heap.size := fun k hk => (h_a.ft hk).2
  skip
  have lt_r : ∀ k, (Ft p_r u_r) k → k < w3.heap.size := fun k hk => (h_r.ft hk).2
  (try dsimp only)
  go_wp2_with fail
  refine (putVal_any h_a t (by simp)).mono ?_
  rintro e w4 ⟨rfl, u4_a, hh, tt⟩
  replace h_r := h_r.besideD tt D_r_a.symm
  replace D_r_a : DJ (Ft p_r u_r) (Ft p_a u4_a) := (D_r_a.symm.step tt lt_r).symm
  clear h_a
  have h_a := hh
  replace bw := bw.trans (tt.bel.mono sb_a)
  replace sz := bw.size
  clear hh tt
  clear lt_a
  have lt_a : ∀ k, (Ft p_a u4_a) k → k < w4.heap.size := fun k hk => (h_a.ft hk).2
  clear lt_r
  have lt_r : ∀ k, (Ft p_r u_r) k → k < w4.heap.size := fun k hk => (h_r.ft hk).2
  (try dsimp only)
  go_wp2_with fail
  refine (getVal_any h_r).mono ?_
  rintro e w5 ⟨rfl, st⟩
  rw [HY.out] at st; obtain ⟨hh, tt⟩ := st; rw [HY.out]
  replace h_a := h_a.besideD tt D_r_a
  replace D_r_a : DJ (Ft p_r u_r) (Ft p_a u4_a) := D_r_a.step tt lt_a
  clear h_r
  have h_r := hh
  replace bw := bw.trans (tt.bel.mono sb_r)
  replace sz := bw.size
  clear hh tt
  clear lt_a
  have lt_a : ∀ k, (Ft p_a u4_a) k → k < w5.heap.size := fun k hk => (h_a.ft hk).2
  clear lt_r
  have lt_r : ∀ k, (Ft p_r u_r) k → k < w5.heap.size := fun k hk => (h_r.ft hk).2
  (try dsimp only)
  go_wp2_with fail
  refine (refRead_any A b.length c _).mono ?_
  rintro e w6 ⟨rfl, hb⟩
  replace h_a := h_a.below hb
  replace h_r := h_r.below hb
  replace bw := bw.trans (hb.mono bw.size)
  replace sz := bw.size
  clear hb
  clear lt_a
  have lt_a : ∀ k, (Ft p_a u4_a) k → k < w6.heap.size := fun k hk => (h_a.ft hk).2
  clear lt_r
  have lt_r : ∀ k, (Ft p_r u_r) k → k < w6.heap.size := fun k hk => (h_r.ft hk).2
  (try dsimp only)
  go_wp2_with fail
  refine (refGetVal_any A b.length c b ⟨0, 0⟩ _ rfl ((HR.out.below bw).more bw.size) (Nat.zero_le _) hc hb6).mono ?_
  rintro e w7 ⟨rfl, hb⟩
  replace h_a := h_a.below hb
  replace h_r := h_r.below hb
  rw [HY.out]
  replace bw := bw.trans (hb.mono bw.size)
  replace sz := bw.size
  clear hb
  clear lt_a
  have lt_a : ∀ k, (Ft p_a u4_a) k → k < w7.heap.size := fun k hk => (h_a.ft hk).2
  clear lt_r
  have lt_r : ∀ k, (Ft p_r u_r) k → k < w7.heap.size := fun k hk => (h_r.ft hk).2
  (try dsimp only)
  go_wp2_with fail
  refine at_world (F := fun w' => Var w' (w7.heap.size) #[.slice A b.length c, .int .i64 (s1.at_ : Int), .int .i64 s1.err] 35 ∧ WrAt w' w1.heap.size p_a u4_a (Oct.putVal ⟨[], 0⟩ t) ∧ RdrAt w' w2.heap.size p_r u_r b s1 ∧ w7.heap.size ≤ w'.heap.size ∧ Below w.heap.size w w') ⟨Var.newE _ _ _ rfl, h_a.below (by go_grown), h_r.below (by go_grown), by go_size, by go_grown⟩ ?_
  clear  h_a  h_r bw sz
  rintro w8 ⟨v_s, h_a, h_r, szn, bw⟩
  have sz := bw.size
  have D_a_s : DJ (Ft p_a u4_a) (· = w7.heap.size) := DJ.fresh lt_a (N := w7.heap.size) (fun k hk => by subst hk; omega)
  have D_r_s : DJ (Ft p_r u_r) (· = w7.heap.size) := DJ.fresh lt_r (N := w7.heap.size) (fun k hk => by subst hk; omega)
  clear lt_a
  have lt_a : ∀ k, (Ft p_a u4_a) k → k < w8.heap.size := fun k hk => (h_a.ft hk).2
  clear lt_r
  have lt_r : ∀ k, (Ft p_r u_r) k → k < w8.heap.size := fun k hk => (h_r.ft hk).2
  clear szn
  refine (refPutVal_any none 0 0 ⟨[], 0⟩ _ rfl (RdB.nil_) (by simp) t).mono ?_
  rintro e w9 ⟨A2, c2, rfl, hA2, hb⟩
  replace v_s := v_s.below hb v_s.lt
  replace h_a := h_a.below hb
  replace h_r := h_r.below hb
  replace bw := bw.trans (hb.mono bw.size)
  replace sz := bw.size
  clear hb
  clear lt_a
  have lt_a : ∀ k, (Ft p_a u4_a) k → k < w9.heap.size := fun k hk => (h_a.ft hk).2
  clear lt_r
  have lt_r : ∀ k, (Ft p_r u_r) k → k < w9.heap.size := fun k hk => (h_r.ft hk).2
  have q_s := v_s.cells
  have l_s := v_s.lt
  (try dsimp only)
  go_wp2_with fail
  clear q_s l_s
  refine (put_any h_a A2 c2 _ rfl hA2 (by simp at hpl; omega)).mono ?_
  rintro e w10 ⟨rfl, hb⟩
  replace v_s := v_s.below hb v_s.lt
  replace h_a := h_a.below hb
  replace h_r := h_r.below hb
  replace bw := bw.trans (hb.mono bw.size)
  replace sz := bw.size
  clear hb
  clear lt_a
  have lt_a : ∀ k, (Ft p_a u4_a) k → k < w10.heap.size := fun k hk => (h_a.ft hk).2
  clear lt_r
  have lt_r : ∀ k, (Ft p_r u_r) k → k < w10.heap.size := fun k hk => (h_r.ft hk).2
  have q_s := v_s.cells
  have l_s := v_s.lt
  (try dsimp only)
  go_wp2_with fail
  clear q_s l_s
  refine (got_any h_r A c _).mono ?_
  rintro e w11 ⟨rfl, hb⟩
  replace v_s := v_s.below hb v_s.lt
  replace h_a := h_a.below hb
  replace h_r := h_r.below hb
  replace bw := bw.trans (hb.mono bw.size)
  replace sz := bw.size
  clear hb
  clear lt_a
  have lt_a : ∀ k, (Ft p_a u4_a) k → k < w11.heap.size := fun k hk => (h_a.ft hk).2
  clear lt_r
  have lt_r : ∀ k, (Ft p_r u_r) k → k < w11.heap.size := fun k hk => (h_r.ft hk).2
  have q_s := v_s.cells
  have l_s := v_s.lt
  (try dsimp only)
  go_wp2_with fail
  clear q_s l_s
  refine (alive_any _).mono ?_
  rintro e w12 ⟨rfl, hb⟩
  replace v_s := v_s.below hb v_s.lt
  replace h_a := h_a.below hb
  replace h_r := h_r.below hb
  replace bw := bw.trans (hb.mono bw.size)
  replace sz := bw.size
  clear hb
  clear lt_a
  have lt_a : ∀ k, (Ft p_a u4_a) k → k < w12.heap.size := fun k hk => (h_a.ft hk).2
  clear lt_r
  have lt_r : ∀ k, (Ft p_r u_r) k → k < w12.heap.size := fun k hk => (h_r.ft hk).2
  have q_s := v_s.cells
  have l_s := v_s.lt
  go_wp2
  go_ret
  exact ⟨rfl, bw⟩
set_option maxHeartbeats 8000000 in
set_option maxRecDepth 100000 in
theorem bintypeGlobals_walk (A : Option Addr) (c : Nat) (b : List UInt8) (t : Int) (mu : Bool) (w : World) (hr : RdB w w.heap.size A b) (hc : b.length ≤ c) (hm : c ≤ maxLen) :
    Calls Try.prog 6 #[.slice A b.length c, .agg #[.int .i64 t, .bool mu]] w fun e w' => e = .returned (.bool true) ∧ Below w.heap.size w w' := by
  have hbm : b.length ≤ 9223372036854775807 := by unfold maxLen at hm; omega
  clear hm
  by_cases h60 : 60 < b.length
  · have g1 : decide (60 < b.length) = true := by simpa using h60
    have g2 : decide ((60 : Int) < (b.length : Int)) = true := by simp; omega
    clear h60
    go_enter Try.func6, Try.ntmps6
    (try dsimp only)
    go_wp2_with fail
    refine at_world (F := fun w' => Var w' (w.heap.size) #[.int .i64 t, .bool mu] 67 ∧ Below w.heap.size w w') ⟨Var.new w _ _, by go_grown⟩ ?_
    rintro w1 ⟨v_x, bw⟩
    have sz := bw.size
    refine (alive_any _).mono ?_
    rintro e w2 ⟨rfl, hb⟩
    replace v_x := v_x.below hb v_x.lt
    replace bw := bw.trans (hb.mono bw.size)
    replace sz := bw.size
    clear hb
    have q_x := v_x.cells
    have l_x := v_x.lt
    go_wp2
    go_ret
    exact ⟨rfl, bw⟩
  have g1 : decide (60 < b.length) = false := by simpa using h60
  have g2 : decide ((60 : Int) < (b.length : Int)) = false := by simp; omega
  have hb6 : b.length ≤ 1000000 := by omega
  clear h60
  have HR := Lib.hid hr
  clear hr
  obtain ⟨⟨s1, y1, y2⟩, hy⟩ : ∃ y, Oct.getGlobal b ⟨0, 0⟩ = y := ⟨_, rfl⟩
  have HY := Lib.hid hy
  have hpl : (Oct.putGlobal ⟨[], 0⟩ t mu).b.length ≤ 1000 := by rw [Oct.putGlobal_eq]; have := Oct.bytes_len (Oct.putVal ⟨[], 0⟩ t) [if mu then 1 else 0]; have h2 := Oct.putVal_len ⟨[], 0⟩ t; simp at this h2; omega
  have HEQ := eq_glob y1 y1 y2 y2
  clear hy
  go_enter Try.func6, Try.ntmps6
  (try dsimp only)
  go_wp2_with fail
  refine at_world (F := fun w' => Var w' (w.heap.size) #[.int .i64 t, .bool mu] 67 ∧ Below w.heap.size w w') ⟨Var.new w _ _, by go_grown⟩ ?_
  rintro w1 ⟨v_x, bw⟩
  have sz := bw.size
  have lq_x := v_x.lt
  refine (new_any w1 _ (Nat.le_refl _)).mono ?_
  rintro e w2 ⟨p_a, u_a, rfl, h_a, hb, hf⟩
  replace v_x := v_x.below hb v_x.lt
  have D_a_x : DJ (Ft p_a u_a) (· = w.heap.size) := (DJ.fresh (N := w1.heap.size) (fun k hk => by subst hk; exact lq_x) hf).symm
  have sb_a : w.heap.size ≤ w1.heap.size := sz
  replace bw := bw.trans (hb.mono bw.size)
  replace sz := bw.size
  clear hb hf lq_x
  skip
  have lt_a : ∀ k, (Ft p_a u_a) k → k < w2.heap.size := fun k hk => (h_a.ft hk).2
  have q_x := v_x.cells
  have l_x := v_x.lt
  (try dsimp only)
  go_wp2_with fail
  clear q_x l_x
  have lq_x := v_x.lt
  refine (read_any w2 _ (Nat.le_refl _) A c _ b rfl ((HR.out.below bw).more bw.size) hb6).mono ?_
  rintro e w3 ⟨p_r, u_r, rfl, h_r, hb, hf⟩
  replace v_x := v_x.below hb v_x.lt
  replace h_a := h_a.below hb
  have D_r_x : DJ (Ft p_r u_r) (· = w.heap.size) := (DJ.fresh (N := w2.heap.size) (fun k hk => by subst hk; exact lq_x) hf).symm
  have D_r_a : DJ (Ft p_r u_r) (Ft p_a u_a) := (DJ.fresh lt_a (N := w2.heap.size) hf).symm
  have sb_r : w.heap.size ≤ w2.heap.size := sz
  replace bw := bw.trans (hb.mono bw.size)
  replace sz := bw.size
  clear hb hf lq_x
  clear lt_a
  have lt_a : ∀ k, (Ft p_a u_a) k → k < w3.heap.size := fun k hk => (h_a.ft hk).2
  skip
  have lt_r : ∀ k, (Ft p_r u_r) k → k < w3.heap.size := fun k hk => (h_r.ft hk).2
  have q_x := v_x.cells
  have l_x := v_x.lt
  (try dsimp only)
  go_wp2_with fail
  clear q_x l_x
  have lq_x := v_x.lt
  refine (putGlobal_any h_a t mu (by simp)).mono ?_
  rintro e w4 ⟨rfl, u4_a, hh, tt⟩
  replace v_x := v_x.trn tt D_a_x
  replace h_r := h_r.besideD tt D_r_a.symm
  replace D_a_x : DJ (Ft p_a u4_a) (· = w.heap.size) := D_a_x.step tt (fun k hk => by subst hk; exact lq_x)
  replace D_r_a : DJ (Ft p_r u_r) (Ft p_a u4_a) := (D_r_a.symm.step tt lt_r).symm
  clear h_a
  have h_a := hh
  replace bw := bw.trans (tt.bel.mono sb_a)
  replace sz := bw.size
  clear hh tt lq_x
  clear lt_a
  have lt_a : ∀ k, (Ft p_a u4_a) k → k < w4.heap.size := fun k hk => (h_a.ft hk).2
  clear lt_r
  have lt_r : ∀ k, (Ft p_r u_r) k → k < w4.heap.size := fun k hk => (h_r.ft hk).2
  have q_x := v_x.cells
  have l_x := v_x.lt
  (try dsimp only)
  go_wp2_with fail
  clear q_x l_x
  have lq_x := v_x.lt
  refine (getGlobal_any h_r).mono ?_
  rintro e w5 ⟨rfl, st⟩
  rw [HY.out] at st; obtain ⟨hh, tt⟩ := st; rw [HY.out]
  replace v_x := v_x.trn tt D_r_x
  replace h_a := h_a.besideD tt D_r_a
  replace D_r_x : DJ (Ft p_r u_r) (· = w.heap.size) := D_r_x.step tt (fun k hk => by subst hk; exact lq_x)
  replace D_r_a : DJ (Ft p_r u_r) (Ft p_a u4_a) := D_r_a.step tt lt_a
  clear h_r
  have h_r := hh
  replace bw := bw.trans (tt.bel.mono sb_r)
  replace sz := bw.size
  clear hh tt lq_x
  clear lt_a
  have lt_a : ∀ k, (Ft p_a u4_a) k → k < w5.heap.size := fun k hk => (h_a.ft hk).2
  clear lt_r
  have lt_r : ∀ k, (Ft p_r u_r) k → k < w5.heap.size := fun k hk => (h_r.ft hk).2
  have q_x := v_x.cells
  have l_x := v_x.lt
  have d_x_y := v_x.lt
  (try dsimp only)
  go_wp2_with fail
  refine at_world (F := fun w' => Var w' (w.heap.size) #[.int .i64 t, .bool mu] 67 ∧ Var w' (w5.heap.size) #[.int .i64 y1, .bool y2] 67 ∧ WrAt w' w1.heap.size p_a u4_a (Oct.putGlobal ⟨[], 0⟩ t mu) ∧ RdrAt w' w2.heap.size p_r u_r b s1 ∧ w5.heap.size ≤ w'.heap.size ∧ Below w.heap.size w w') ⟨(v_x).alloc _, Var.newE _ _ _ rfl, h_a.below (by go_grown), h_r.below (by go_grown), by go_size, by go_grown⟩ ?_
  clear q_x l_x v_x h_a  h_r bw sz
  rintro w6 ⟨v_x, v_y, h_a, h_r, szn, bw⟩
  have sz := bw.size
  have D_a_y : DJ (Ft p_a u4_a) (· = w5.heap.size) := DJ.fresh lt_a (N := w5.heap.size) (fun k hk => by subst hk; omega)
  have D_r_y : DJ (Ft p_r u_r) (· = w5.heap.size) := DJ.fresh lt_r (N := w5.heap.size) (fun k hk => by subst hk; omega)
  clear lt_a
  have lt_a : ∀ k, (Ft p_a u4_a) k → k < w6.heap.size := fun k hk => (h_a.ft hk).2
  clear lt_r
  have lt_r : ∀ k, (Ft p_r u_r) k → k < w6.heap.size := fun k hk => (h_r.ft hk).2
  clear szn
  refine (refRead_any A b.length c _).mono ?_
  rintro e w7 ⟨rfl, hb⟩
  replace v_x := v_x.below hb v_x.lt
  replace v_y := v_y.below hb v_y.lt
  replace h_a := h_a.below hb
  replace h_r := h_r.below hb
  replace bw := bw.trans (hb.mono bw.size)
  replace sz := bw.size
  clear hb
  clear lt_a
  have lt_a : ∀ k, (Ft p_a u4_a) k → k < w7.heap.size := fun k hk => (h_a.ft hk).2
  clear lt_r
  have lt_r : ∀ k, (Ft p_r u_r) k → k < w7.heap.size := fun k hk => (h_r.ft hk).2
  have q_x := v_x.cells
  have l_x := v_x.lt
  have q_y := v_y.cells
  have l_y := v_y.lt
  (try dsimp only)
  go_wp2_with fail
  clear q_x l_x q_y l_y
  refine (refGetGlobal_any A b.length c b ⟨0, 0⟩ _ rfl ((HR.out.below bw).more bw.size) (Nat.zero_le _) hc hb6).mono ?_
  rintro e w8 ⟨rfl, hb⟩
  replace v_x := v_x.below hb v_x.lt
  replace v_y := v_y.below hb v_y.lt
  replace h_a := h_a.below hb
  replace h_r := h_r.below hb
  rw [HY.out]
  replace bw := bw.trans (hb.mono bw.size)
  replace sz := bw.size
  clear hb
  clear lt_a
  have lt_a : ∀ k, (Ft p_a u4_a) k → k < w8.heap.size := fun k hk => (h_a.ft hk).2
  clear lt_r
  have lt_r : ∀ k, (Ft p_r u_r) k → k < w8.heap.size := fun k hk => (h_r.ft hk).2
  have q_x := v_x.cells
  have l_x := v_x.lt
  have q_y := v_y.cells
  have l_y := v_y.lt
  have d_x_s := v_x.lt
  have d_y_s := v_y.lt
  have d_x_z := v_x.lt
  have d_y_z := v_y.lt
  (try dsimp only)
  go_wp2_with fail
  refine at_world (F := fun w' => Var w' (w.heap.size) #[.int .i64 t, .bool mu] 67 ∧ Var w' (w5.heap.size) #[.int .i64 y1, .bool y2] 67 ∧ Var w' (w8.heap.size) #[.slice A b.length c, .int .i64 (s1.at_ : Int), .int .i64 s1.err] 35 ∧ Var w' (w8.heap.size + 1) #[.int .i64 y1, .bool y2] 67 ∧ WrAt w' w1.heap.size p_a u4_a (Oct.putGlobal ⟨[], 0⟩ t mu) ∧ RdrAt w' w2.heap.size p_r u_r b s1 ∧ w8.heap.size ≤ w'.heap.size ∧ Below w.heap.size w w') ⟨((v_x).alloc _).alloc _, ((v_y).alloc _).alloc _, (Var.newE _ _ _ rfl).alloc _, Var.newE2 _ _ _ _ rfl, h_a.below (by go_grown), h_r.below (by go_grown), by go_size, by go_grown⟩ ?_
  clear q_x l_x v_x q_y l_y v_y h_a  h_r bw sz
  rintro w9 ⟨v_x, v_y, v_s, v_z, h_a, h_r, szn, bw⟩
  have sz := bw.size
  have D_a_s : DJ (Ft p_a u4_a) (· = w8.heap.size) := DJ.fresh lt_a (N := w8.heap.size) (fun k hk => by subst hk; omega)
  have D_r_s : DJ (Ft p_r u_r) (· = w8.heap.size) := DJ.fresh lt_r (N := w8.heap.size) (fun k hk => by subst hk; omega)
  have D_a_z : DJ (Ft p_a u4_a) (· = w8.heap.size + 1) := DJ.fresh lt_a (N := w8.heap.size) (fun k hk => by subst hk; omega)
  have D_r_z : DJ (Ft p_r u_r) (· = w8.heap.size + 1) := DJ.fresh lt_r (N := w8.heap.size) (fun k hk => by subst hk; omega)
  clear lt_a
  have lt_a : ∀ k, (Ft p_a u4_a) k → k < w9.heap.size := fun k hk => (h_a.ft hk).2
  clear lt_r
  have lt_r : ∀ k, (Ft p_r u_r) k → k < w9.heap.size := fun k hk => (h_r.ft hk).2
  clear szn
  refine (refPutGlobal_any none 0 0 ⟨[], 0⟩ _ rfl (RdB.nil_) (by simp) t mu).mono ?_
  rintro e w10 ⟨A2, c2, rfl, hA2, hb⟩
  replace v_x := v_x.below hb v_x.lt
  replace v_y := v_y.below hb v_y.lt
  replace v_s := v_s.below hb v_s.lt
  replace v_z := v_z.below hb v_z.lt
  replace h_a := h_a.below hb
  replace h_r := h_r.below hb
  replace bw := bw.trans (hb.mono bw.size)
  replace sz := bw.size
  clear hb
  clear lt_a
  have lt_a : ∀ k, (Ft p_a u4_a) k → k < w10.heap.size := fun k hk => (h_a.ft hk).2
  clear lt_r
  have lt_r : ∀ k, (Ft p_r u_r) k → k < w10.heap.size := fun k hk => (h_r.ft hk).2
  have q_x := v_x.cells
  have l_x := v_x.lt
  have q_y := v_y.cells
  have l_y := v_y.lt
  have q_s := v_s.cells
  have l_s := v_s.lt
  have q_z := v_z.cells
  have l_z := v_z.lt
  (try dsimp only)
  go_wp2_with fail
  clear q_x l_x q_y l_y q_s l_s q_z l_z
  refine (put_any h_a A2 c2 _ rfl hA2 (by omega)).mono ?_
  rintro e w11 ⟨rfl, hb⟩
  replace v_x := v_x.below hb v_x.lt
  replace v_y := v_y.below hb v_y.lt
  replace v_s := v_s.below hb v_s.lt
  replace v_z := v_z.below hb v_z.lt
  replace h_a := h_a.below hb
  replace h_r := h_r.below hb
  replace bw := bw.trans (hb.mono bw.size)
  replace sz := bw.size
  clear hb
  clear lt_a
  have lt_a : ∀ k, (Ft p_a u4_a) k → k < w11.heap.size := fun k hk => (h_a.ft hk).2
  clear lt_r
  have lt_r : ∀ k, (Ft p_r u_r) k → k < w11.heap.size := fun k hk => (h_r.ft hk).2
  have q_x := v_x.cells
  have l_x := v_x.lt
  have q_y := v_y.cells
  have l_y := v_y.lt
  have q_s := v_s.cells
  have l_s := v_s.lt
  have q_z := v_z.cells
  have l_z := v_z.lt
  (try dsimp only)
  go_wp2_with fail
  clear q_x l_x q_y l_y q_s l_s q_z l_z
  refine (got_any h_r A c _).mono ?_
  rintro e w12 ⟨rfl, hb⟩
  replace v_x := v_x.below hb v_x.lt
  replace v_y := v_y.below hb v_y.lt
  replace v_s := v_s.below hb v_s.lt
  replace v_z := v_z.below hb v_z.lt
  replace h_a := h_a.below hb
  replace h_r := h_r.below hb
  replace bw := bw.trans (hb.mono bw.size)
  replace sz := bw.size
  clear hb
  clear lt_a
  have lt_a : ∀ k, (Ft p_a u4_a) k → k < w12.heap.size := fun k hk => (h_a.ft hk).2
  clear lt_r
  have lt_r : ∀ k, (Ft p_r u_r) k → k < w12.heap.size := fun k hk => (h_r.ft hk).2
  have q_x := v_x.cells
  have l_x := v_x.lt
  have q_y := v_y.cells
  have l_y := v_y.lt
  have q_s := v_s.cells
  have l_s := v_s.lt
  have q_z := v_z.cells
  have l_z := v_z.lt
  (try dsimp only)
  go_wp2_with fail
  clear q_x l_x q_y l_y q_s l_s q_z l_z
  refine (alive_any _).mono ?_
  rintro e w13 ⟨rfl, hb⟩
  replace v_x := v_x.below hb v_x.lt
  replace v_y := v_y.below hb v_y.lt
  replace v_s := v_s.below hb v_s.lt
  replace v_z := v_z.below hb v_z.lt
  replace h_a := h_a.below hb
  replace h_r := h_r.below hb
  replace bw := bw.trans (hb.mono bw.size)
  replace sz := bw.size
  clear hb
  clear lt_a
  have lt_a : ∀ k, (Ft p_a u4_a) k → k < w13.heap.size := fun k hk => (h_a.ft hk).2
  clear lt_r
  have lt_r : ∀ k, (Ft p_r u_r) k → k < w13.heap.size := fun k hk => (h_r.ft hk).2
  have q_x := v_x.cells
  have l_x := v_x.lt
  have q_y := v_y.cells
  have l_y := v_y.lt
  have q_s := v_s.cells
  have l_s := v_s.lt
  have q_z := v_z.cells
  have l_z := v_z.lt
  go_wp2
  go_ret
  exact ⟨rfl, bw⟩
set_option maxHeartbeats 8000000 in
set_option maxRecDepth 100000 in
theorem bintypeBlocks_walk (A : Option Addr) (c : Nat) (b : List UInt8) (k t i : Int) (w : World) (hr : RdB w w.heap.size A b) (hc : b.length ≤ c) (hm : c ≤ maxLen) :
    Calls Try.prog 3 #[.slice A b.length c, .agg #[.int .i64 k, .int .i64 t, .int .i64 i]] w fun e w' => e = .returned (.bool true) ∧ Below w.heap.size w w' := by
  have hbm : b.length ≤ 9223372036854775807 := by unfold maxLen at hm; omega
  clear hm
  by_cases h60 : 60 < b.length
  · have g1 : decide (60 < b.length) = true := by simpa using h60
    have g2 : decide ((60 : Int) < (b.length : Int)) = true := by simp; omega
    clear h60
    go_enter Try.func3, Try.ntmps3
    (try dsimp only)
    go_wp2_with fail
    refine at_world (F := fun w' => Var w' (w.heap.size) #[.int .i64 k, .int .i64 t, .int .i64 i] 25 ∧ Below w.heap.size w w') ⟨Var.new w _ _, by go_grown⟩ ?_
    rintro w1 ⟨v_x, bw⟩
    have sz := bw.size
    refine (alive_any _).mono ?_
    rintro e w2 ⟨rfl, hb⟩
    replace v_x := v_x.below hb v_x.lt
    replace bw := bw.trans (hb.mono bw.size)
    replace sz := bw.size
    clear hb
    have q_x := v_x.cells
    have l_x := v_x.lt
    go_wp2
    go_ret
    exact ⟨rfl, bw⟩
  have g1 : decide (60 < b.length) = false := by simpa using h60
  have g2 : decide ((60 : Int) < (b.length : Int)) = false := by simp; omega
  have hb6 : b.length ≤ 1000000 := by omega
  clear h60
  have HR := Lib.hid hr
  clear hr
  obtain ⟨⟨s1, ⟨y1, y2, y3⟩⟩, hy⟩ : ∃ y, Oct.getBlock b ⟨0, 0⟩ = y := ⟨_, rfl⟩
  have HY := Lib.hid hy
  have hpl : (Oct.putBlock ⟨[], 0⟩ ⟨k, t, i⟩).b.length ≤ 1000 := Oct.putBlock_len1000 _ 0
  have HEQ := eq_blk y1 y2 y3 y1 y2 y3
  clear hy
  go_enter Try.func3, Try.ntmps3
  (try dsimp only)
  go_wp2_with fail
  refine at_world (F := fun w' => Var w' (w.heap.size) #[.int .i64 k, .int .i64 t, .int .i64 i] 25 ∧ Below w.heap.size w w') ⟨Var.new w _ _, by go_grown⟩ ?_
  rintro w1 ⟨v_x, bw⟩
  have sz := bw.size
  have lq_x := v_x.lt
  refine (new_any w1 _ (Nat.le_refl _)).mono ?_
  rintro e w2 ⟨p_a, u_a, rfl, h_a, hb, hf⟩
  replace v_x := v_x.below hb v_x.lt
  have D_a_x : DJ (Ft p_a u_a) (· = w.heap.size) := (DJ.fresh (N := w1.heap.size) (fun k hk => by subst hk; exact lq_x) hf).symm
  have sb_a : w.heap.size ≤ w1.heap.size := sz
  replace bw := bw.trans (hb.mono bw.size)
  replace sz := bw.size
  clear hb hf lq_x
  skip
  have lt_a : ∀ k, (Ft p_a u_a) k → k < w2.heap.size := fun k hk => (h_a.ft hk).2
  have q_x := v_x.cells
  have l_x := v_x.lt
  (try dsimp only)
  go_wp2_with fail
  clear q_x l_x
  have lq_x := v_x.lt
  refine (read_any w2 _ (Nat.le_refl _) A c _ b rfl ((HR.out.below bw).more bw.size) hb6).mono ?_
  rintro e w3 ⟨p_r, u_r, rfl, h_r, hb, hf⟩
  replace v_x := v_x.below hb v_x.lt
  replace h_a := h_a.below hb
  have D_r_x : DJ (Ft p_r u_r) (· = w.heap.size) := (DJ.fresh (N := w2.heap.size) (fun k hk => by subst hk; exact lq_x) hf).symm
  have D_r_a : DJ (Ft p_r u_r) (Ft p_a u_a) := (DJ.fresh lt_a (N := w2.heap.size) hf).symm
  have sb_r : w.heap.size ≤ w2.heap.size := sz
  replace bw := bw.trans (hb.mono bw.size)
  replace sz := bw.size
  clear hb hf lq_x
  clear lt_a
  have lt_a : ∀ k, (Ft p_a u_a) k → k < w3.heap.size := fun k hk => (h_a.ft hk).2
  skip
  have lt_r : ∀ k, (Ft p_r u_r) k → k < w3.heap.size := fun k hk => (h_r.ft hk).2
  have q_x := v_x.cells
  have l_x := v_x.lt
  (try dsimp only)
  go_wp2_with fail
  clear q_x l_x
  have lq_x := v_x.lt
  refine (putBlock_any h_a ⟨k, t, i⟩ (by simp)).mono ?_
  rintro e w4 ⟨rfl, u4_a, hh, tt⟩
  replace v_x := v_x.trn tt D_a_x
  replace h_r := h_r.besideD tt D_r_a.symm
  replace D_a_x : DJ (Ft p_a u4_a) (· = w.heap.size) := D_a_x.step tt (fun k hk => by subst hk; exact lq_x)
  replace D_r_a : DJ (Ft p_r u_r) (Ft p_a u4_a) := (D_r_a.symm.step tt lt_r).symm
  clear h_a
  have h_a := hh
  replace bw := bw.trans (tt.bel.mono sb_a)
  replace sz := bw.size
  clear hh tt lq_x
  clear lt_a
  have lt_a : ∀ k, (Ft p_a u4_a) k → k < w4.heap.size := fun k hk => (h_a.ft hk).2
  clear lt_r
  have lt_r : ∀ k, (Ft p_r u_r) k → k < w4.heap.size := fun k hk => (h_r.ft hk).2
  have q_x := v_x.cells
  have l_x := v_x.lt
  (try dsimp only)
  go_wp2_with fail
  clear q_x l_x
  have lq_x := v_x.lt
  refine (getBlock_any h_r).mono ?_
  rintro e w5 ⟨rfl, st⟩
  rw [HY.out] at st; obtain ⟨hh, tt⟩ := st; rw [HY.out]
  replace v_x := v_x.trn tt D_r_x
  replace h_a := h_a.besideD tt D_r_a
  replace D_r_x : DJ (Ft p_r u_r) (· = w.heap.size) := D_r_x.step tt (fun k hk => by subst hk; exact lq_x)
  replace D_r_a : DJ (Ft p_r u_r) (Ft p_a u4_a) := D_r_a.step tt lt_a
  clear h_r
  have h_r := hh
  replace bw := bw.trans (tt.bel.mono sb_r)
  replace sz := bw.size
  clear hh tt lq_x
  clear lt_a
  have lt_a : ∀ k, (Ft p_a u4_a) k → k < w5.heap.size := fun k hk => (h_a.ft hk).2
  clear lt_r
  have lt_r : ∀ k, (Ft p_r u_r) k → k < w5.heap.size := fun k hk => (h_r.ft hk).2
  have q_x := v_x.cells
  have l_x := v_x.lt
  have d_x_y := v_x.lt
  (try dsimp only)
  go_wp2_with fail
  refine at_world (F := fun w' => Var w' (w.heap.size) #[.int .i64 k, .int .i64 t, .int .i64 i] 25 ∧ Var w' (w5.heap.size) #[.int .i64 y1, .int .i64 y2, .int .i64 y3] 25 ∧ WrAt w' w1.heap.size p_a u4_a (Oct.putBlock ⟨[], 0⟩ ⟨k, t, i⟩) ∧ RdrAt w' w2.heap.size p_r u_r b s1 ∧ w5.heap.size ≤ w'.heap.size ∧ Below w.heap.size w w') ⟨(v_x).alloc _, Var.newE _ _ _ rfl, h_a.below (by go_grown), h_r.below (by go_grown), by go_size, by go_grown⟩ ?_
  clear q_x l_x v_x h_a  h_r bw sz
  rintro w6 ⟨v_x, v_y, h_a, h_r, szn, bw⟩
  have sz := bw.size
  have D_a_y : DJ (Ft p_a u4_a) (· = w5.heap.size) := DJ.fresh lt_a (N := w5.heap.size) (fun k hk => by subst hk; omega)
  have D_r_y : DJ (Ft p_r u_r) (· = w5.heap.size) := DJ.fresh lt_r (N := w5.heap.size) (fun k hk => by subst hk; omega)
  clear lt_a
  have lt_a : ∀ k, (Ft p_a u4_a) k → k < w6.heap.size := fun k hk => (h_a.ft hk).2
  clear lt_r
  have lt_r : ∀ k, (Ft p_r u_r) k → k < w6.heap.size := fun k hk => (h_r.ft hk).2
  clear szn
  refine (refRead_any A b.length c _).mono ?_
  rintro e w7 ⟨rfl, hb⟩
  replace v_x := v_x.below hb v_x.lt
  replace v_y := v_y.below hb v_y.lt
  replace h_a := h_a.below hb
  replace h_r := h_r.below hb
  replace bw := bw.trans (hb.mono bw.size)
  replace sz := bw.size
  clear hb
  clear lt_a
  have lt_a : ∀ k, (Ft p_a u4_a) k → k < w7.heap.size := fun k hk => (h_a.ft hk).2
  clear lt_r
  have lt_r : ∀ k, (Ft p_r u_r) k → k < w7.heap.size := fun k hk => (h_r.ft hk).2
  have q_x := v_x.cells
  have l_x := v_x.lt
  have q_y := v_y.cells
  have l_y := v_y.lt
  (try dsimp only)
  go_wp2_with fail
  clear q_x l_x q_y l_y
  refine (refGetBlock_any A b.length c b ⟨0, 0⟩ _ rfl ((HR.out.below bw).more bw.size) (Nat.zero_le _) hc hb6).mono ?_
  rintro e w8 ⟨rfl, hb⟩
  replace v_x := v_x.below hb v_x.lt
  replace v_y := v_y.below hb v_y.lt
  replace h_a := h_a.below hb
  replace h_r := h_r.below hb
  rw [HY.out]
  replace bw := bw.trans (hb.mono bw.size)
  replace sz := bw.size
  clear hb
  clear lt_a
  have lt_a : ∀ k, (Ft p_a u4_a) k → k < w8.heap.size := fun k hk => (h_a.ft hk).2
  clear lt_r
  have lt_r : ∀ k, (Ft p_r u_r) k → k < w8.heap.size := fun k hk => (h_r.ft hk).2
  have q_x := v_x.cells
  have l_x := v_x.lt
  have q_y := v_y.cells
  have l_y := v_y.lt
  have d_x_s := v_x.lt
  have d_y_s := v_y.lt
  have d_x_z := v_x.lt
  have d_y_z := v_y.lt
  (try dsimp only)
  go_wp2_with fail
  refine at_world (F := fun w' => Var w' (w.heap.size) #[.int .i64 k, .int .i64 t, .int .i64 i] 25 ∧ Var w' (w5.heap.size) #[.int .i64 y1, .int .i64 y2, .int .i64 y3] 25 ∧ Var w' (w8.heap.size) #[.slice A b.length c, .int .i64 (s1.at_ : Int), .int .i64 s1.err] 35 ∧ Var w' (w8.heap.size + 1) #[.int .i64 y1, .int .i64 y2, .int .i64 y3] 25 ∧ WrAt w' w1.heap.size p_a u4_a (Oct.putBlock ⟨[], 0⟩ ⟨k, t, i⟩) ∧ RdrAt w' w2.heap.size p_r u_r b s1 ∧ w8.heap.size ≤ w'.heap.size ∧ Below w.heap.size w w') ⟨((v_x).alloc _).alloc _, ((v_y).alloc _).alloc _, (Var.newE _ _ _ rfl).alloc _, Var.newE2 _ _ _ _ rfl, h_a.below (by go_grown), h_r.below (by go_grown), by go_size, by go_grown⟩ ?_
  clear q_x l_x v_x q_y l_y v_y h_a  h_r bw sz
  rintro w9 ⟨v_x, v_y, v_s, v_z, h_a, h_r, szn, bw⟩
  have sz := bw.size
  have D_a_s : DJ (Ft p_a u4_a) (· = w8.heap.size) := DJ.fresh lt_a (N := w8.heap.size) (fun k hk => by subst hk; omega)
  have D_r_s : DJ (Ft p_r u_r) (· = w8.heap.size) := DJ.fresh lt_r (N := w8.heap.size) (fun k hk => by subst hk; omega)
  have D_a_z : DJ (Ft p_a u4_a) (· = w8.heap.size + 1) := DJ.fresh lt_a (N := w8.heap.size) (fun k hk => by subst hk; omega)
  have D_r_z : DJ (Ft p_r u_r) (· = w8.heap.size + 1) := DJ.fresh lt_r (N := w8.heap.size) (fun k hk => by subst hk; omega)
  clear lt_a
  have lt_a : ∀ k, (Ft p_a u4_a) k → k < w9.heap.size := fun k hk => (h_a.ft hk).2
  clear lt_r
  have lt_r : ∀ k, (Ft p_r u_r) k → k < w9.heap.size := fun k hk => (h_r.ft hk).2
  clear szn
  refine (refPutBlock_any none 0 0 ⟨[], 0⟩ _ rfl (RdB.nil_) (by simp) ⟨k, t, i⟩).mono ?_
  rintro e w10 ⟨A2, c2, rfl, hA2, hb⟩
  replace v_x := v_x.below hb v_x.lt
  replace v_y := v_y.below hb v_y.lt
  replace v_s := v_s.below hb v_s.lt
  replace v_z := v_z.below hb v_z.lt
  replace h_a := h_a.below hb
  replace h_r := h_r.below hb
  replace bw := bw.trans (hb.mono bw.size)
  replace sz := bw.size
  clear hb
  clear lt_a
  have lt_a : ∀ k, (Ft p_a u4_a) k → k < w10.heap.size := fun k hk => (h_a.ft hk).2
  clear lt_r
  have lt_r : ∀ k, (Ft p_r u_r) k → k < w10.heap.size := fun k hk => (h_r.ft hk).2
  have q_x := v_x.cells
  have l_x := v_x.lt
  have q_y := v_y.cells
  have l_y := v_y.lt
  have q_s := v_s.cells
  have l_s := v_s.lt
  have q_z := v_z.cells
  have l_z := v_z.lt
  (try dsimp only)
  go_wp2_with fail
  clear q_x l_x q_y l_y q_s l_s q_z l_z
  refine (put_any h_a A2 c2 _ rfl hA2 (by omega)).mono ?_
  rintro e w11 ⟨rfl, hb⟩
  replace v_x := v_x.below hb v_x.lt
  replace v_y := v_y.below hb v_y.lt
  replace v_s := v_s.below hb v_s.lt
  replace v_z := v_z.below hb v_z.lt
  replace h_a := h_a.below hb
  replace h_r := h_r.below hb
  replace bw := bw.trans (hb.mono bw.size)
  replace sz := bw.size
  clear hb
  clear lt_a
  have lt_a : ∀ k, (Ft p_a u4_a) k → k < w11.heap.size := fun k hk => (h_a.ft hk).2
  clear lt_r
  have lt_r : ∀ k, (Ft p_r u_r) k → k < w11.heap.size := fun k hk => (h_r.ft hk).2
  have q_x := v_x.cells
  have l_x := v_x.lt
  have q_y := v_y.cells
  have l_y := v_y.lt
  have q_s := v_s.cells
  have l_s := v_s.lt
  have q_z := v_z.cells
  have l_z := v_z.lt
  (try dsimp only)
  go_wp2_with fail
  clear q_x l_x q_y l_y q_s l_s q_z l_z
  refine (got_any h_r A c _).mono ?_
  rintro e w12 ⟨rfl, hb⟩
  replace v_x := v_x.below hb v_x.lt
  replace v_y := v_y.below hb v_y.lt
  replace v_s := v_s.below hb v_s.lt
  replace v_z := v_z.below hb v_z.lt
  replace h_a := h_a.below hb
  replace h_r := h_r.below hb
  replace bw := bw.trans (hb.mono bw.size)
  replace sz := bw.size
  clear hb
  clear lt_a
  have lt_a : ∀ k, (Ft p_a u4_a) k → k < w12.heap.size := fun k hk => (h_a.ft hk).2
  clear lt_r
  have lt_r : ∀ k, (Ft p_r u_r) k → k < w12.heap.size := fun k hk => (h_r.ft hk).2
  have q_x := v_x.cells
  have l_x := v_x.lt
  have q_y := v_y.cells
  have l_y := v_y.lt
  have q_s := v_s.cells
  have l_s := v_s.lt
  have q_z := v_z.cells
  have l_z := v_z.lt
  (try dsimp only)
  go_wp2_with fail
  clear q_x l_x q_y l_y q_s l_s q_z l_z
  refine (alive_any _).mono ?_
  rintro e w13 ⟨rfl, hb⟩
  replace v_x := v_x.below hb v_x.lt
  replace v_y := v_y.below hb v_y.lt
  replace v_s := v_s.below hb v_s.lt
  replace v_z := v_z.below hb v_z.lt
  replace h_a := h_a.below hb
  replace h_r := h_r.below hb
  replace bw := bw.trans (hb.mono bw.size)
  replace sz := bw.size
  clear hb
  clear lt_a
  have lt_a : ∀ k, (Ft p_a u4_a) k → k < w13.heap.size := fun k hk => (h_a.ft hk).2
  clear lt_r
  have lt_r : ∀ k, (Ft p_r u_r) k → k < w13.heap.size := fun k hk => (h_r.ft hk).2
  have q_x := v_x.cells
  have l_x := v_x.lt
  have q_y := v_y.cells
  have l_y := v_y.lt
  have q_s := v_s.cells
  have l_s := v_s.lt
  have q_z := v_z.cells
  have l_z := v_z.lt
  go_wp2
  go_ret
  exact ⟨rfl, bw⟩
end Go.Proofs.Ytagcildoebicnaa
