/-
  The walks of the laws BintypeSizes and BintypeFuncs.
-/
import Derived.Test.YtagcildoebicnaaBtLaw1
set_option linter.unusedVariables false
set_option linter.unusedSimpArgs false
namespace Go.Proofs.Ytagcildoebicnaa
open Go.RowKit

theorem Oct.putTable_len (s : Oct.Wt) (el : Int) (l : Oct.Lim) : (Oct.putTable s el l).b.length ≤ s.b.length + 22 := by
  unfold Oct.putTable
  split
  · split
    · have := Oct.putLim_len (Oct.putVal s el) l; have := Oct.putVal_len s el; omega
    · rw [Oct.fail_len]; omega
  · rw [Oct.fail_len]; omega
theorem Oct.putFunc_len (s : Oct.Wt) (ps rs : List Int) : (Oct.putFunc s ps rs).b.length ≤ s.b.length + ps.length + rs.length + 21 := by
  unfold Oct.putFunc
  split
  · split
    · have := Oct.putVals_len (Oct.putVals (s.bytes [96]) ps) rs
      have := Oct.putVals_len (s.bytes [96]) ps
      have h3 := Oct.bytes_len s [96]
      simp at h3
      omega
    · rw [Oct.fail_len]; omega
  · rw [Oct.fail_len]; omega
theorem Lst.param {w w' : World} {p v : Value} {A : Option Addr} {vs : List Int} (h : RdI w w.heap.size A vs) (hb : Below w.heap.size w w') (hge : ∀ k, Ft p v k → w.heap.size ≤ k) : Lst w' p v A vs := by
  refine ⟨(h.below hb).more hb.size, fun hn ad hA hf => ?_⟩
  obtain ⟨ad', e, hl, _⟩ := h.2 hn
  rw [hA] at e; injection e with e; subst e
  have := hge _ hf
  omega

set_option maxHeartbeats 8000000 in
set_option maxRecDepth 100000 in
theorem bintypeSizes_walk (A : Option Addr) (c : Nat) (b : List UInt8) (mn mx : Int) (has : Bool) (el mn2 mx2 : Int) (has2 : Bool) (w : World) (hr : RdB w w.heap.size A b) (hc : b.length ≤ c) (hm : c ≤ maxLen) :
    Calls Try.prog 5 #[.slice A b.length c, .agg #[.int .i64 mn, .int .i64 mx, .bool has], .agg #[.int .i64 el, .int .i64 mn2, .int .i64 mx2, .bool has2]] w fun e w' => e = .returned (.bool true) ∧ Below w.heap.size w w' := by
  have hbm : b.length ≤ 9223372036854775807 := by unfold maxLen at hm; omega
  clear hm
  by_cases h60 : 60 < b.length
  · have g1 : decide (60 < b.length) = true := by simpa using h60
    have g2 : decide ((60 : Int) < (b.length : Int)) = true := by simp; omega
    clear h60
    go_enter Try.func5, Try.ntmps5
    (try dsimp only)
    go_wp2_with fail
    refine at_world (F := fun w' => Var w' (w.heap.size) #[.int .i64 mn, .int .i64 mx, .bool has] 52 ∧ Var w' (w.heap.size + 1) #[.int .i64 el, .int .i64 mn2, .int .i64 mx2, .bool has2] 54 ∧ Below w.heap.size w w') ⟨(Var.new w _ _).alloc _, Var.new2 w _ _ _, by go_grown⟩ ?_
    rintro w1 ⟨v_x, v_y, bw⟩
    have sz := bw.size
    refine (alive_any _).mono ?_
    rintro e w2 ⟨rfl, hb⟩
    replace v_x := v_x.below hb v_x.lt
    replace v_y := v_y.below hb v_y.lt
    replace bw := bw.trans (hb.mono bw.size)
    replace sz := bw.size
    clear hb
    have q_x := v_x.cells
    have l_x := v_x.lt
    have q_y := v_y.cells
    have l_y := v_y.lt
    go_wp2
    go_ret
    exact ⟨rfl, bw⟩
  have g1 : decide (60 < b.length) = false := by simpa using h60
  have g2 : decide ((60 : Int) < (b.length : Int)) = false := by simp; omega
  have hb6 : b.length ≤ 1000000 := by omega
  clear h60
  have HR := Lib.hid hr
  clear hr
  obtain ⟨⟨s1, ⟨x1, x2, x3⟩⟩, hy⟩ : ∃ y, Oct.getLim b ⟨0, 0⟩ = y := ⟨_, rfl⟩
  have HY := Lib.hid hy
  clear hy
  obtain ⟨⟨s2, z0, ⟨z1, z2, z3⟩⟩, hy⟩ : ∃ y, Oct.getTable b ⟨0, 0⟩ = y := ⟨_, rfl⟩
  have HZ := Lib.hid hy
  clear hy
  have hpl : (Oct.putLim ⟨[], 0⟩ ⟨mn, mx, has⟩).b.length ≤ 1000 := by have := Oct.putLim_len ⟨[], 0⟩ ⟨mn, mx, has⟩; simp at this; omega
  have hpt : (Oct.putTable ⟨[], 0⟩ el ⟨mn2, mx2, has2⟩).b.length ≤ 1000 := by have := Oct.putTable_len ⟨[], 0⟩ el ⟨mn2, mx2, has2⟩; simp at this; omega
  have HE1 := eq_lim x1 x2 x1 x2 x3 x3
  have HE2 := eq_table z0 z0 z1 z2 z1 z2 z3 z3
  go_enter Try.func5, Try.ntmps5
  (try dsimp only)
  go_wp2_with fail
  refine at_world (F := fun w' => Var w' (w.heap.size) #[.int .i64 mn, .int .i64 mx, .bool has] 52 ∧ Var w' (w.heap.size + 1) #[.int .i64 el, .int .i64 mn2, .int .i64 mx2, .bool has2] 54 ∧ Below w.heap.size w w') ⟨(Var.new w _ _).alloc _, Var.new2 w _ _ _, by go_grown⟩ ?_
  rintro w1 ⟨v_x, v_y, bw⟩
  have sz := bw.size
  have lq_x := v_x.lt
  have lq_y := v_y.lt
  refine (new_any w1 _ (Nat.le_refl _)).mono ?_
  rintro e w2 ⟨p_a, u_a, rfl, h_a, hb, hf⟩
  replace v_x := v_x.below hb v_x.lt
  replace v_y := v_y.below hb v_y.lt
  have D_a_x : DJ (Ft p_a u_a) (· = w.heap.size) := (DJ.fresh (N := w1.heap.size) (fun k hk => by subst hk; exact lq_x) hf).symm
  have D_a_y : DJ (Ft p_a u_a) (· = w.heap.size + 1) := (DJ.fresh (N := w1.heap.size) (fun k hk => by subst hk; exact lq_y) hf).symm
  have sb_a : w.heap.size ≤ w1.heap.size := sz
  replace bw := bw.trans (hb.mono bw.size)
  replace sz := bw.size
  clear hb hf lq_x lq_y
  skip
  have lt_a : ∀ k, (Ft p_a u_a) k → k < w2.heap.size := fun k hk => (h_a.ft hk).2
  have q_x := v_x.cells
  have l_x := v_x.lt
  have q_y := v_y.cells
  have l_y := v_y.lt
  (try dsimp only)
  go_wp2_with fail
  clear q_x l_x q_y l_y
  have lq_x := v_x.lt
  have lq_y := v_y.lt
  refine (new_any w2 _ (Nat.le_refl _)).mono ?_
  rintro e w3 ⟨p_d, u_d, rfl, h_d, hb, hf⟩
  replace v_x := v_x.below hb v_x.lt
  replace v_y := v_y.below hb v_y.lt
  replace h_a := h_a.below hb
  have D_d_x : DJ (Ft p_d u_d) (· = w.heap.size) := (DJ.fresh (N := w2.heap.size) (fun k hk => by subst hk; exact lq_x) hf).symm
  have D_d_y : DJ (Ft p_d u_d) (· = w.heap.size + 1) := (DJ.fresh (N := w2.heap.size) (fun k hk => by subst hk; exact lq_y) hf).symm
  have D_d_a : DJ (Ft p_d u_d) (Ft p_a u_a) := (DJ.fresh lt_a (N := w2.heap.size) hf).symm
  have sb_d : w.heap.size ≤ w2.heap.size := sz
  replace bw := bw.trans (hb.mono bw.size)
  replace sz := bw.size
  clear hb hf lq_x lq_y
  clear lt_a
  have lt_a : ∀ k, (Ft p_a u_a) k → k < w3.heap.size := fun k hk => (h_a.ft hk).2
  skip
  have lt_d : ∀ k, (Ft p_d u_d) k → k < w3.heap.size := fun k hk => (h_d.ft hk).2
  have q_x := v_x.cells
  have l_x := v_x.lt
  have q_y := v_y.cells
  have l_y := v_y.lt
  (try dsimp only)
  go_wp2_with fail
  clear q_x l_x q_y l_y
  have lq_x := v_x.lt
  have lq_y := v_y.lt
  refine (read_any w3 _ (Nat.le_refl _) A c _ b rfl ((HR.out.below bw).more bw.size) hb6).mono ?_
  rintro e w4 ⟨p_r, u_r, rfl, h_r, hb, hf⟩
  replace v_x := v_x.below hb v_x.lt
  replace v_y := v_y.below hb v_y.lt
  replace h_a := h_a.below hb
  replace h_d := h_d.below hb
  have D_r_x : DJ (Ft p_r u_r) (· = w.heap.size) := (DJ.fresh (N := w3.heap.size) (fun k hk => by subst hk; exact lq_x) hf).symm
  have D_r_y : DJ (Ft p_r u_r) (· = w.heap.size + 1) := (DJ.fresh (N := w3.heap.size) (fun k hk => by subst hk; exact lq_y) hf).symm
  have D_r_a : DJ (Ft p_r u_r) (Ft p_a u_a) := (DJ.fresh lt_a (N := w3.heap.size) hf).symm
  have D_r_d : DJ (Ft p_r u_r) (Ft p_d u_d) := (DJ.fresh lt_d (N := w3.heap.size) hf).symm
  have sb_r : w.heap.size ≤ w3.heap.size := sz
  replace bw := bw.trans (hb.mono bw.size)
  replace sz := bw.size
  clear hb hf lq_x lq_y
  clear lt_a
  have lt_a : ∀ k, (Ft p_a u_a) k → k < w4.heap.size := fun k hk => (h_a.ft hk).2
  clear lt_d
  have lt_d : ∀ k, (Ft p_d u_d) k → k < w4.heap.size := fun k hk => (h_d.ft hk).2
  skip
  have lt_r : ∀ k, (Ft p_r u_r) k → k < w4.heap.size := fun k hk => (h_r.ft hk).2
  have q_x := v_x.cells
  have l_x := v_x.lt
  have q_y := v_y.cells
  have l_y := v_y.lt
  (try dsimp only)
  go_wp2_with fail
  clear q_x l_x q_y l_y
  have lq_x := v_x.lt
  have lq_y := v_y.lt
  refine (read_any w4 _ (Nat.le_refl _) A c _ b rfl ((HR.out.below bw).more bw.size) hb6).mono ?_
  rintro e w5 ⟨p_q, u_q, rfl, h_q, hb, hf⟩
  replace v_x := v_x.below hb v_x.lt
  replace v_y := v_y.below hb v_y.lt
  replace h_a := h_a.below hb
  replace h_d := h_d.below hb
  replace h_r := h_r.below hb
  have D_q_x : DJ (Ft p_q u_q) (· = w.heap.size) := (DJ.fresh (N := w4.heap.size) (fun k hk => by subst hk; exact lq_x) hf).symm
  have D_q_y : DJ (Ft p_q u_q) (· = w.heap.size + 1) := (DJ.fresh (N := w4.heap.size) (fun k hk => by subst hk; exact lq_y) hf).symm
  have D_q_a : DJ (Ft p_q u_q) (Ft p_a u_a) := (DJ.fresh lt_a (N := w4.heap.size) hf).symm
  have D_q_d : DJ (Ft p_q u_q) (Ft p_d u_d) := (DJ.fresh lt_d (N := w4.heap.size) hf).symm
  have D_q_r : DJ (Ft p_q u_q) (Ft p_r u_r) := (DJ.fresh lt_r (N := w4.heap.size) hf).symm
  have sb_q : w.heap.size ≤ w4.heap.size := sz
  replace bw := bw.trans (hb.mono bw.size)
  replace sz := bw.size
  clear hb hf lq_x lq_y
  clear lt_a
  have lt_a : ∀ k, (Ft p_a u_a) k → k < w5.heap.size := fun k hk => (h_a.ft hk).2
  clear lt_d
  have lt_d : ∀ k, (Ft p_d u_d) k → k < w5.heap.size := fun k hk => (h_d.ft hk).2
  clear lt_r
  have lt_r : ∀ k, (Ft p_r u_r) k → k < w5.heap.size := fun k hk => (h_r.ft hk).2
  skip
  have lt_q : ∀ k, (Ft p_q u_q) k → k < w5.heap.size := fun k hk => (h_q.ft hk).2
  have q_x := v_x.cells
  have l_x := v_x.lt
  have q_y := v_y.cells
  have l_y := v_y.lt
  (try dsimp only)
  go_wp2_with fail
  clear q_x l_x q_y l_y
  have lq_x := v_x.lt
  have lq_y := v_y.lt
  refine (putLim_any h_a ⟨mn, mx, has⟩ (by simp)).mono ?_
  rintro e w6 ⟨rfl, u6_a, hh, tt⟩
  replace v_x := v_x.trn tt D_a_x
  replace v_y := v_y.trn tt D_a_y
  replace h_d := h_d.besideD tt D_d_a.symm
  replace h_r := h_r.besideD tt D_r_a.symm
  replace h_q := h_q.besideD tt D_q_a.symm
  replace D_a_x : DJ (Ft p_a u6_a) (· = w.heap.size) := D_a_x.step tt (fun k hk => by subst hk; exact lq_x)
  replace D_a_y : DJ (Ft p_a u6_a) (· = w.heap.size + 1) := D_a_y.step tt (fun k hk => by subst hk; exact lq_y)
  replace D_d_a : DJ (Ft p_d u_d) (Ft p_a u6_a) := (D_d_a.symm.step tt lt_d).symm
  replace D_r_a : DJ (Ft p_r u_r) (Ft p_a u6_a) := (D_r_a.symm.step tt lt_r).symm
  replace D_q_a : DJ (Ft p_q u_q) (Ft p_a u6_a) := (D_q_a.symm.step tt lt_q).symm
  clear h_a
  have h_a := hh
  replace bw := bw.trans (tt.bel.mono sb_a)
  replace sz := bw.size
  clear hh tt lq_x lq_y
  clear lt_a
  have lt_a : ∀ k, (Ft p_a u6_a) k → k < w6.heap.size := fun k hk => (h_a.ft hk).2
  clear lt_d
  have lt_d : ∀ k, (Ft p_d u_d) k → k < w6.heap.size := fun k hk => (h_d.ft hk).2
  clear lt_r
  have lt_r : ∀ k, (Ft p_r u_r) k → k < w6.heap.size := fun k hk => (h_r.ft hk).2
  clear lt_q
  have lt_q : ∀ k, (Ft p_q u_q) k → k < w6.heap.size := fun k hk => (h_q.ft hk).2
  have q_x := v_x.cells
  have l_x := v_x.lt
  have q_y := v_y.cells
  have l_y := v_y.lt
  (try dsimp only)
  go_wp2_with fail
  clear q_x l_x q_y l_y
  have lq_x := v_x.lt
  have lq_y := v_y.lt
  refine (putTable_any h_d el ⟨mn2, mx2, has2⟩ (by simp)).mono ?_
  rintro e w7 ⟨rfl, u7_d, hh, tt⟩
  replace v_x := v_x.trn tt D_d_x
  replace v_y := v_y.trn tt D_d_y
  replace h_a := h_a.besideD tt D_d_a
  replace h_r := h_r.besideD tt D_r_d.symm
  replace h_q := h_q.besideD tt D_q_d.symm
  replace D_d_x : DJ (Ft p_d u7_d) (· = w.heap.size) := D_d_x.step tt (fun k hk => by subst hk; exact lq_x)
  replace D_d_y : DJ (Ft p_d u7_d) (· = w.heap.size + 1) := D_d_y.step tt (fun k hk => by subst hk; exact lq_y)
  replace D_d_a : DJ (Ft p_d u7_d) (Ft p_a u6_a) := D_d_a.step tt lt_a
  replace D_r_d : DJ (Ft p_r u_r) (Ft p_d u7_d) := (D_r_d.symm.step tt lt_r).symm
  replace D_q_d : DJ (Ft p_q u_q) (Ft p_d u7_d) := (D_q_d.symm.step tt lt_q).symm
  clear h_d
  have h_d := hh
  replace bw := bw.trans (tt.bel.mono sb_d)
  replace sz := bw.size
  clear hh tt lq_x lq_y
  clear lt_a
  have lt_a : ∀ k, (Ft p_a u6_a) k → k < w7.heap.size := fun k hk => (h_a.ft hk).2
  clear lt_d
  have lt_d : ∀ k, (Ft p_d u7_d) k → k < w7.heap.size := fun k hk => (h_d.ft hk).2
  clear lt_r
  have lt_r : ∀ k, (Ft p_r u_r) k → k < w7.heap.size := fun k hk => (h_r.ft hk).2
  clear lt_q
  have lt_q : ∀ k, (Ft p_q u_q) k → k < w7.heap.size := fun k hk => (h_q.ft hk).2
  have q_x := v_x.cells
  have l_x := v_x.lt
  have q_y := v_y.cells
  have l_y := v_y.lt
  (try dsimp only)
  go_wp2_with fail
  clear q_x l_x q_y l_y
  have lq_x := v_x.lt
  have lq_y := v_y.lt
  refine (getLim_any h_r).mono ?_
  rintro e w8 ⟨rfl, st⟩
  rw [HY.out] at st; obtain ⟨hh, tt⟩ := st; rw [HY.out]
  replace v_x := v_x.trn tt D_r_x
  replace v_y := v_y.trn tt D_r_y
  replace h_a := h_a.besideD tt D_r_a
  replace h_d := h_d.besideD tt D_r_d
  replace h_q := h_q.besideD tt D_q_r.symm
  replace D_r_x : DJ (Ft p_r u_r) (· = w.heap.size) := D_r_x.step tt (fun k hk => by subst hk; exact lq_x)
  replace D_r_y : DJ (Ft p_r u_r) (· = w.heap.size + 1) := D_r_y.step tt (fun k hk => by subst hk; exact lq_y)
  replace D_r_a : DJ (Ft p_r u_r) (Ft p_a u6_a) := D_r_a.step tt lt_a
  replace D_r_d : DJ (Ft p_r u_r) (Ft p_d u7_d) := D_r_d.step tt lt_d
  replace D_q_r : DJ (Ft p_q u_q) (Ft p_r u_r) := (D_q_r.symm.step tt lt_q).symm
  clear h_r
  have h_r := hh
  replace bw := bw.trans (tt.bel.mono sb_r)
  replace sz := bw.size
  clear hh tt lq_x lq_y
  clear lt_a
  have lt_a : ∀ k, (Ft p_a u6_a) k → k < w8.heap.size := fun k hk => (h_a.ft hk).2
  clear lt_d
  have lt_d : ∀ k, (Ft p_d u7_d) k → k < w8.heap.size := fun k hk => (h_d.ft hk).2
  clear lt_r
  have lt_r : ∀ k, (Ft p_r u_r) k → k < w8.heap.size := fun k hk => (h_r.ft hk).2
  clear lt_q
  have lt_q : ∀ k, (Ft p_q u_q) k → k < w8.heap.size := fun k hk => (h_q.ft hk).2
  have q_x := v_x.cells
  have l_x := v_x.lt
  have q_y := v_y.cells
  have l_y := v_y.lt
  (try dsimp only)
  go_wp2_with fail
  clear q_x l_x q_y l_y
  have lq_x := v_x.lt
  have lq_y := v_y.lt
  refine (getTable_any h_q).mono ?_
  rintro e w9 ⟨rfl, st⟩
  rw [HZ.out] at st; obtain ⟨hh, tt⟩ := st; rw [HZ.out]
  replace v_x := v_x.trn tt D_q_x
  replace v_y := v_y.trn tt D_q_y
  replace h_a := h_a.besideD tt D_q_a
  replace h_d := h_d.besideD tt D_q_d
  replace h_r := h_r.besideD tt D_q_r
  replace D_q_x : DJ (Ft p_q u_q) (· = w.heap.size) := D_q_x.step tt (fun k hk => by subst hk; exact lq_x)
  replace D_q_y : DJ (Ft p_q u_q) (· = w.heap.size + 1) := D_q_y.step tt (fun k hk => by subst hk; exact lq_y)
  replace D_q_a : DJ (Ft p_q u_q) (Ft p_a u6_a) := D_q_a.step tt lt_a
  replace D_q_d : DJ (Ft p_q u_q) (Ft p_d u7_d) := D_q_d.step tt lt_d
  replace D_q_r : DJ (Ft p_q u_q) (Ft p_r u_r) := D_q_r.step tt lt_r
  clear h_q
  have h_q := hh
  replace bw := bw.trans (tt.bel.mono sb_q)
  replace sz := bw.size
  clear hh tt lq_x lq_y
  clear lt_a
  have lt_a : ∀ k, (Ft p_a u6_a) k → k < w9.heap.size := fun k hk => (h_a.ft hk).2
  clear lt_d
  have lt_d : ∀ k, (Ft p_d u7_d) k → k < w9.heap.size := fun k hk => (h_d.ft hk).2
  clear lt_r
  have lt_r : ∀ k, (Ft p_r u_r) k → k < w9.heap.size := fun k hk => (h_r.ft hk).2
  clear lt_q
  have lt_q : ∀ k, (Ft p_q u_q) k → k < w9.heap.size := fun k hk => (h_q.ft hk).2
  have q_x := v_x.cells
  have l_x := v_x.lt
  have q_y := v_y.cells
  have l_y := v_y.lt
  have d_x_gl := v_x.lt
  have d_y_gl := v_y.lt
  have d_x_gt := v_x.lt
  have d_y_gt := v_y.lt
  (try dsimp only)
  go_wp2_with fail
  refine at_world (F := fun w' => Var w' (w.heap.size) #[.int .i64 mn, .int .i64 mx, .bool has] 52 ∧ Var w' (w.heap.size + 1) #[.int .i64 el, .int .i64 mn2, .int .i64 mx2, .bool has2] 54 ∧ Var w' (w9.heap.size) #[.int .i64 x1, .int .i64 x2, .bool x3] 52 ∧ Var w' (w9.heap.size + 1) #[.int .i64 z0, .int .i64 z1, .int .i64 z2, .bool z3] 54 ∧ WrAt w' w1.heap.size p_a u6_a (Oct.putLim ⟨[], 0⟩ ⟨mn, mx, has⟩) ∧ WrAt w' w2.heap.size p_d u7_d (Oct.putTable ⟨[], 0⟩ el ⟨mn2, mx2, has2⟩) ∧ RdrAt w' w3.heap.size p_r u_r b s1 ∧ RdrAt w' w4.heap.size p_q u_q b s2 ∧ w9.heap.size ≤ w'.heap.size ∧ Below w.heap.size w w') ⟨((v_x).alloc _).alloc _, ((v_y).alloc _).alloc _, (Var.newE _ _ _ rfl).alloc _, Var.newE2 _ _ _ _ rfl, h_a.below (by go_grown), h_d.below (by go_grown), h_r.below (by go_grown), h_q.below (by go_grown), by go_size, by go_grown⟩ ?_
  clear q_x l_x v_x q_y l_y v_y h_a  h_d  h_r  h_q bw sz
  rintro w10 ⟨v_x, v_y, v_gl, v_gt, h_a, h_d, h_r, h_q, szn, bw⟩
  have sz := bw.size
  have D_a_gl : DJ (Ft p_a u6_a) (· = w9.heap.size) := DJ.fresh lt_a (N := w9.heap.size) (fun k hk => by subst hk; omega)
  have D_d_gl : DJ (Ft p_d u7_d) (· = w9.heap.size) := DJ.fresh lt_d (N := w9.heap.size) (fun k hk => by subst hk; omega)
  have D_r_gl : DJ (Ft p_r u_r) (· = w9.heap.size) := DJ.fresh lt_r (N := w9.heap.size) (fun k hk => by subst hk; omega)
  have D_q_gl : DJ (Ft p_q u_q) (· = w9.heap.size) := DJ.fresh lt_q (N := w9.heap.size) (fun k hk => by subst hk; omega)
  have D_a_gt : DJ (Ft p_a u6_a) (· = w9.heap.size + 1) := DJ.fresh lt_a (N := w9.heap.size) (fun k hk => by subst hk; omega)
  have D_d_gt : DJ (Ft p_d u7_d) (· = w9.heap.size + 1) := DJ.fresh lt_d (N := w9.heap.size) (fun k hk => by subst hk; omega)
  have D_r_gt : DJ (Ft p_r u_r) (· = w9.heap.size + 1) := DJ.fresh lt_r (N := w9.heap.size) (fun k hk => by subst hk; omega)
  have D_q_gt : DJ (Ft p_q u_q) (· = w9.heap.size + 1) := DJ.fresh lt_q (N := w9.heap.size) (fun k hk => by subst hk; omega)
  clear lt_a
  have lt_a : ∀ k, (Ft p_a u6_a) k → k < w10.heap.size := fun k hk => (h_a.ft hk).2
  clear lt_d
  have lt_d : ∀ k, (Ft p_d u7_d) k → k < w10.heap.size := fun k hk => (h_d.ft hk).2
  clear lt_r
  have lt_r : ∀ k, (Ft p_r u_r) k → k < w10.heap.size := fun k hk => (h_r.ft hk).2
  clear lt_q
  have lt_q : ∀ k, (Ft p_q u_q) k → k < w10.heap.size := fun k hk => (h_q.ft hk).2
  clear szn
  refine (refRead_any A b.length c _).mono ?_
  rintro e w11 ⟨rfl, hb⟩
  replace v_x := v_x.below hb v_x.lt
  replace v_y := v_y.below hb v_y.lt
  replace v_gl := v_gl.below hb v_gl.lt
  replace v_gt := v_gt.below hb v_gt.lt
  replace h_a := h_a.below hb
  replace h_d := h_d.below hb
  replace h_r := h_r.below hb
  replace h_q := h_q.below hb
  replace bw := bw.trans (hb.mono bw.size)
  replace sz := bw.size
  clear hb
  clear lt_a
  have lt_a : ∀ k, (Ft p_a u6_a) k → k < w11.heap.size := fun k hk => (h_a.ft hk).2
  clear lt_d
  have lt_d : ∀ k, (Ft p_d u7_d) k → k < w11.heap.size := fun k hk => (h_d.ft hk).2
  clear lt_r
  have lt_r : ∀ k, (Ft p_r u_r) k → k < w11.heap.size := fun k hk => (h_r.ft hk).2
  clear lt_q
  have lt_q : ∀ k, (Ft p_q u_q) k → k < w11.heap.size := fun k hk => (h_q.ft hk).2
  have q_x := v_x.cells
  have l_x := v_x.lt
  have q_y := v_y.cells
  have l_y := v_y.lt
  have q_gl := v_gl.cells
  have l_gl := v_gl.lt
  have q_gt := v_gt.cells
  have l_gt := v_gt.lt
  (try dsimp only)
  go_wp2_with fail
  clear q_x l_x q_y l_y q_gl l_gl q_gt l_gt
  refine (refGetLim_any A b.length c b ⟨0, 0⟩ _ rfl ((HR.out.below bw).more bw.size) (Nat.zero_le _) hc hb6).mono ?_
  rintro e w12 ⟨rfl, hb⟩
  replace v_x := v_x.below hb v_x.lt
  replace v_y := v_y.below hb v_y.lt
  replace v_gl := v_gl.below hb v_gl.lt
  replace v_gt := v_gt.below hb v_gt.lt
  replace h_a := h_a.below hb
  replace h_d := h_d.below hb
  replace h_r := h_r.below hb
  replace h_q := h_q.below hb
  rw [HY.out]
  replace bw := bw.trans (hb.mono bw.size)
  replace sz := bw.size
  clear hb
  clear lt_a
  have lt_a : ∀ k, (Ft p_a u6_a) k → k < w12.heap.size := fun k hk => (h_a.ft hk).2
  clear lt_d
  have lt_d : ∀ k, (Ft p_d u7_d) k → k < w12.heap.size := fun k hk => (h_d.ft hk).2
  clear lt_r
  have lt_r : ∀ k, (Ft p_r u_r) k → k < w12.heap.size := fun k hk => (h_r.ft hk).2
  clear lt_q
  have lt_q : ∀ k, (Ft p_q u_q) k → k < w12.heap.size := fun k hk => (h_q.ft hk).2
  have q_x := v_x.cells
  have l_x := v_x.lt
  have q_y := v_y.cells
  have l_y := v_y.lt
  have q_gl := v_gl.cells
  have l_gl := v_gl.lt
  have q_gt := v_gt.cells
  have l_gt := v_gt.lt
  have d_x_s := v_x.lt
  have d_y_s := v_y.lt
  have d_gl_s := v_gl.lt
  have d_gt_s := v_gt.lt
  have d_x_rl := v_x.lt
  have d_y_rl := v_y.lt
  have d_gl_rl := v_gl.lt
  have d_gt_rl := v_gt.lt
  (try dsimp only)
  go_wp2_with fail
  refine at_world (F := fun w' => Var w' (w.heap.size) #[.int .i64 mn, .int .i64 mx, .bool has] 52 ∧ Var w' (w.heap.size + 1) #[.int .i64 el, .int .i64 mn2, .int .i64 mx2, .bool has2] 54 ∧ Var w' (w9.heap.size) #[.int .i64 x1, .int .i64 x2, .bool x3] 52 ∧ Var w' (w9.heap.size + 1) #[.int .i64 z0, .int .i64 z1, .int .i64 z2, .bool z3] 54 ∧ Var w' (w12.heap.size) #[.slice A b.length c, .int .i64 (s1.at_ : Int), .int .i64 s1.err] 35 ∧ Var w' (w12.heap.size + 1) #[.int .i64 x1, .int .i64 x2, .bool x3] 52 ∧ WrAt w' w1.heap.size p_a u6_a (Oct.putLim ⟨[], 0⟩ ⟨mn, mx, has⟩) ∧ WrAt w' w2.heap.size p_d u7_d (Oct.putTable ⟨[], 0⟩ el ⟨mn2, mx2, has2⟩) ∧ RdrAt w' w3.heap.size p_r u_r b s1 ∧ RdrAt w' w4.heap.size p_q u_q b s2 ∧ w12.heap.size ≤ w'.heap.size ∧ Below w.heap.size w w') ⟨((v_x).alloc _).alloc _, ((v_y).alloc _).alloc _, ((v_gl).alloc _).alloc _, ((v_gt).alloc _).alloc _, (Var.newE _ _ _ rfl).alloc _, Var.newE2 _ _ _ _ rfl, h_a.below (by go_grown), h_d.below (by go_grown), h_r.below (by go_grown), h_q.below (by go_grown), by go_size, by go_grown⟩ ?_
  clear q_x l_x v_x q_y l_y v_y q_gl l_gl v_gl q_gt l_gt v_gt h_a  h_d  h_r  h_q bw sz
  rintro w13 ⟨v_x, v_y, v_gl, v_gt, v_s, v_rl, h_a, h_d, h_r, h_q, szn, bw⟩
  have sz := bw.size
  have D_a_s : DJ (Ft p_a u6_a) (· = w12.heap.size) := DJ.fresh lt_a (N := w12.heap.size) (fun k hk => by subst hk; omega)
  have D_d_s : DJ (Ft p_d u7_d) (· = w12.heap.size) := DJ.fresh lt_d (N := w12.heap.size) (fun k hk => by subst hk; omega)
  have D_r_s : DJ (Ft p_r u_r) (· = w12.heap.size) := DJ.fresh lt_r (N := w12.heap.size) (fun k hk => by subst hk; omega)
  have D_q_s : DJ (Ft p_q u_q) (· = w12.heap.size) := DJ.fresh lt_q (N := w12.heap.size) (fun k hk => by subst hk; omega)
  have D_a_rl : DJ (Ft p_a u6_a) (· = w12.heap.size + 1) := DJ.fresh lt_a (N := w12.heap.size) (fun k hk => by subst hk; omega)
  have D_d_rl : DJ (Ft p_d u7_d) (· = w12.heap.size + 1) := DJ.fresh lt_d (N := w12.heap.size) (fun k hk => by subst hk; omega)
  have D_r_rl : DJ (Ft p_r u_r) (· = w12.heap.size + 1) := DJ.fresh lt_r (N := w12.heap.size) (fun k hk => by subst hk; omega)
  have D_q_rl : DJ (Ft p_q u_q) (· = w12.heap.size + 1) := DJ.fresh lt_q (N := w12.heap.size) (fun k hk => by subst hk; omega)
  clear lt_a
  have lt_a : ∀ k, (Ft p_a u6_a) k → k < w13.heap.size := fun k hk => (h_a.ft hk).2
  clear lt_d
  have lt_d : ∀ k, (Ft p_d u7_d) k → k < w13.heap.size := fun k hk => (h_d.ft hk).2
  clear lt_r
  have lt_r : ∀ k, (Ft p_r u_r) k → k < w13.heap.size := fun k hk => (h_r.ft hk).2
  clear lt_q
  have lt_q : ∀ k, (Ft p_q u_q) k → k < w13.heap.size := fun k hk => (h_q.ft hk).2
  clear szn
  refine (refRead_any A b.length c _).mono ?_
  rintro e w14 ⟨rfl, hb⟩
  replace v_x := v_x.below hb v_x.lt
  replace v_y := v_y.below hb v_y.lt
  replace v_gl := v_gl.below hb v_gl.lt
  replace v_gt := v_gt.below hb v_gt.lt
  replace v_s := v_s.below hb v_s.lt
  replace v_rl := v_rl.below hb v_rl.lt
  replace h_a := h_a.below hb
  replace h_d := h_d.below hb
  replace h_r := h_r.below hb
  replace h_q := h_q.below hb
  replace bw := bw.trans (hb.mono bw.size)
  replace sz := bw.size
  clear hb
  clear lt_a
  have lt_a : ∀ k, (Ft p_a u6_a) k → k < w14.heap.size := fun k hk => (h_a.ft hk).2
  clear lt_d
  have lt_d : ∀ k, (Ft p_d u7_d) k → k < w14.heap.size := fun k hk => (h_d.ft hk).2
  clear lt_r
  have lt_r : ∀ k, (Ft p_r u_r) k → k < w14.heap.size := fun k hk => (h_r.ft hk).2
  clear lt_q
  have lt_q : ∀ k, (Ft p_q u_q) k → k < w14.heap.size := fun k hk => (h_q.ft hk).2
  have q_x := v_x.cells
  have l_x := v_x.lt
  have q_y := v_y.cells
  have l_y := v_y.lt
  have q_gl := v_gl.cells
  have l_gl := v_gl.lt
  have q_gt := v_gt.cells
  have l_gt := v_gt.lt
  have q_s := v_s.cells
  have l_s := v_s.lt
  have q_rl := v_rl.cells
  have l_rl := v_rl.lt
  (try dsimp only)
  go_wp2_with fail
  clear q_x l_x q_y l_y q_gl l_gl q_gt l_gt q_s l_s q_rl l_rl
  refine (refGetTable_any A b.length c b ⟨0, 0⟩ _ rfl ((HR.out.below bw).more bw.size) (Nat.zero_le _) hc hb6).mono ?_
  rintro e w15 ⟨rfl, hb⟩
  replace v_x := v_x.below hb v_x.lt
  replace v_y := v_y.below hb v_y.lt
  replace v_gl := v_gl.below hb v_gl.lt
  replace v_gt := v_gt.below hb v_gt.lt
  replace v_s := v_s.below hb v_s.lt
  replace v_rl := v_rl.below hb v_rl.lt
  replace h_a := h_a.below hb
  replace h_d := h_d.below hb
  replace h_r := h_r.below hb
  replace h_q := h_q.below hb
  rw [HZ.out]
  replace bw := bw.trans (hb.mono bw.size)
  replace sz := bw.size
  clear hb
  clear lt_a
  have lt_a : ∀ k, (Ft p_a u6_a) k → k < w15.heap.size := fun k hk => (h_a.ft hk).2
  clear lt_d
  have lt_d : ∀ k, (Ft p_d u7_d) k → k < w15.heap.size := fun k hk => (h_d.ft hk).2
  clear lt_r
  have lt_r : ∀ k, (Ft p_r u_r) k → k < w15.heap.size := fun k hk => (h_r.ft hk).2
  clear lt_q
  have lt_q : ∀ k, (Ft p_q u_q) k → k < w15.heap.size := fun k hk => (h_q.ft hk).2
  have q_x := v_x.cells
  have l_x := v_x.lt
  have q_y := v_y.cells
  have l_y := v_y.lt
  have q_gl := v_gl.cells
  have l_gl := v_gl.lt
  have q_gt := v_gt.cells
  have l_gt := v_gt.lt
  have q_s := v_s.cells
  have l_s := v_s.lt
  have q_rl := v_rl.cells
  have l_rl := v_rl.lt
  have d_x_t := v_x.lt
  have d_y_t := v_y.lt
  have d_gl_t := v_gl.lt
  have d_gt_t := v_gt.lt
  have d_s_t := v_s.lt
  have d_rl_t := v_rl.lt
  have d_x_rt := v_x.lt
  have d_y_rt := v_y.lt
  have d_gl_rt := v_gl.lt
  have d_gt_rt := v_gt.lt
  have d_s_rt := v_s.lt
  have d_rl_rt := v_rl.lt
  (try dsimp only)
  go_wp2_with fail
  refine at_world (F := fun w' => Var w' (w.heap.size) #[.int .i64 mn, .int .i64 mx, .bool has] 52 ∧ Var w' (w.heap.size + 1) #[.int .i64 el, .int .i64 mn2, .int .i64 mx2, .bool has2] 54 ∧ Var w' (w9.heap.size) #[.int .i64 x1, .int .i64 x2, .bool x3] 52 ∧ Var w' (w9.heap.size + 1) #[.int .i64 z0, .int .i64 z1, .int .i64 z2, .bool z3] 54 ∧ Var w' (w12.heap.size) #[.slice A b.length c, .int .i64 (s1.at_ : Int), .int .i64 s1.err] 35 ∧ Var w' (w12.heap.size + 1) #[.int .i64 x1, .int .i64 x2, .bool x3] 52 ∧ Var w' (w15.heap.size) #[.slice A b.length c, .int .i64 (s2.at_ : Int), .int .i64 s2.err] 35 ∧ Var w' (w15.heap.size + 1) #[.int .i64 z0, .int .i64 z1, .int .i64 z2, .bool z3] 54 ∧ WrAt w' w1.heap.size p_a u6_a (Oct.putLim ⟨[], 0⟩ ⟨mn, mx, has⟩) ∧ WrAt w' w2.heap.size p_d u7_d (Oct.putTable ⟨[], 0⟩ el ⟨mn2, mx2, has2⟩) ∧ RdrAt w' w3.heap.size p_r u_r b s1 ∧ RdrAt w' w4.heap.size p_q u_q b s2 ∧ w15.heap.size ≤ w'.heap.size ∧ Below w.heap.size w w') ⟨((v_x).alloc _).alloc _, ((v_y).alloc _).alloc _, ((v_gl).alloc _).alloc _, ((v_gt).alloc _).alloc _, ((v_s).alloc _).alloc _, ((v_rl).alloc _).alloc _, (Var.newE _ _ _ rfl).alloc _, Var.newE2 _ _ _ _ rfl, h_a.below (by go_grown), h_d.below (by go_grown), h_r.below (by go_grown), h_q.below (by go_grown), by go_size, by go_grown⟩ ?_
  clear q_x l_x v_x q_y l_y v_y q_gl l_gl v_gl q_gt l_gt v_gt q_s l_s v_s q_rl l_rl v_rl h_a  h_d  h_r  h_q bw sz
  rintro w16 ⟨v_x, v_y, v_gl, v_gt, v_s, v_rl, v_t, v_rt, h_a, h_d, h_r, h_q, szn, bw⟩
  have sz := bw.size
  have D_a_t : DJ (Ft p_a u6_a) (· = w15.heap.size) := DJ.fresh lt_a (N := w15.heap.size) (fun k hk => by subst hk; omega)
  have D_d_t : DJ (Ft p_d u7_d) (· = w15.heap.size) := DJ.fresh lt_d (N := w15.heap.size) (fun k hk => by subst hk; omega)
  have D_r_t : DJ (Ft p_r u_r) (· = w15.heap.size) := DJ.fresh lt_r (N := w15.heap.size) (fun k hk => by subst hk; omega)
  have D_q_t : DJ (Ft p_q u_q) (· = w15.heap.size) := DJ.fresh lt_q (N := w15.heap.size) (fun k hk => by subst hk; omega)
  have D_a_rt : DJ (Ft p_a u6_a) (· = w15.heap.size + 1) := DJ.fresh lt_a (N := w15.heap.size) (fun k hk => by subst hk; omega)
  have D_d_rt : DJ (Ft p_d u7_d) (· = w15.heap.size + 1) := DJ.fresh lt_d (N := w15.heap.size) (fun k hk => by subst hk; omega)
  have D_r_rt : DJ (Ft p_r u_r) (· = w15.heap.size + 1) := DJ.fresh lt_r (N := w15.heap.size) (fun k hk => by subst hk; omega)
  have D_q_rt : DJ (Ft p_q u_q) (· = w15.heap.size + 1) := DJ.fresh lt_q (N := w15.heap.size) (fun k hk => by subst hk; omega)
  clear lt_a
  have lt_a : ∀ k, (Ft p_a u6_a) k → k < w16.heap.size := fun k hk => (h_a.ft hk).2
  clear lt_d
  have lt_d : ∀ k, (Ft p_d u7_d) k → k < w16.heap.size := fun k hk => (h_d.ft hk).2
  clear lt_r
  have lt_r : ∀ k, (Ft p_r u_r) k → k < w16.heap.size := fun k hk => (h_r.ft hk).2
  clear lt_q
  have lt_q : ∀ k, (Ft p_q u_q) k → k < w16.heap.size := fun k hk => (h_q.ft hk).2
  clear szn
  refine (refPutLim_any none 0 0 ⟨[], 0⟩ _ rfl (RdB.nil_) (by simp) ⟨mn, mx, has⟩).mono ?_
  rintro e w17 ⟨A2, c2, rfl, hA2, hb⟩
  replace v_x := v_x.below hb v_x.lt
  replace v_y := v_y.below hb v_y.lt
  replace v_gl := v_gl.below hb v_gl.lt
  replace v_gt := v_gt.below hb v_gt.lt
  replace v_s := v_s.below hb v_s.lt
  replace v_rl := v_rl.below hb v_rl.lt
  replace v_t := v_t.below hb v_t.lt
  replace v_rt := v_rt.below hb v_rt.lt
  replace h_a := h_a.below hb
  replace h_d := h_d.below hb
  replace h_r := h_r.below hb
  replace h_q := h_q.below hb
  replace bw := bw.trans (hb.mono bw.size)
  replace sz := bw.size
  clear hb
  clear lt_a
  have lt_a : ∀ k, (Ft p_a u6_a) k → k < w17.heap.size := fun k hk => (h_a.ft hk).2
  clear lt_d
  have lt_d : ∀ k, (Ft p_d u7_d) k → k < w17.heap.size := fun k hk => (h_d.ft hk).2
  clear lt_r
  have lt_r : ∀ k, (Ft p_r u_r) k → k < w17.heap.size := fun k hk => (h_r.ft hk).2
  clear lt_q
  have lt_q : ∀ k, (Ft p_q u_q) k → k < w17.heap.size := fun k hk => (h_q.ft hk).2
  have q_x := v_x.cells
  have l_x := v_x.lt
  have q_y := v_y.cells
  have l_y := v_y.lt
  have q_gl := v_gl.cells
  have l_gl := v_gl.lt
  have q_gt := v_gt.cells
  have l_gt := v_gt.lt
  have q_s := v_s.cells
  have l_s := v_s.lt
  have q_rl := v_rl.cells
  have l_rl := v_rl.lt
  have q_t := v_t.cells
  have l_t := v_t.lt
  have q_rt := v_rt.cells
  have l_rt := v_rt.lt
  (try dsimp only)
  go_wp2_with fail
  clear q_x l_x q_y l_y q_gl l_gl q_gt l_gt q_s l_s q_rl l_rl q_t l_t q_rt l_rt
  refine (put_any h_a A2 c2 _ rfl hA2 (by omega)).mono ?_
  rintro e w18 ⟨rfl, hb⟩
  replace v_x := v_x.below hb v_x.lt
  replace v_y := v_y.below hb v_y.lt
  replace v_gl := v_gl.below hb v_gl.lt
  replace v_gt := v_gt.below hb v_gt.lt
  replace v_s := v_s.below hb v_s.lt
  replace v_rl := v_rl.below hb v_rl.lt
  replace v_t := v_t.below hb v_t.lt
  replace v_rt := v_rt.below hb v_rt.lt
  replace h_a := h_a.below hb
  replace h_d := h_d.below hb
  replace h_r := h_r.below hb
  replace h_q := h_q.below hb
  replace bw := bw.trans (hb.mono bw.size)
  replace sz := bw.size
  clear hb
  clear lt_a
  have lt_a : ∀ k, (Ft p_a u6_a) k → k < w18.heap.size := fun k hk => (h_a.ft hk).2
  clear lt_d
  have lt_d : ∀ k, (Ft p_d u7_d) k → k < w18.heap.size := fun k hk => (h_d.ft hk).2
  clear lt_r
  have lt_r : ∀ k, (Ft p_r u_r) k → k < w18.heap.size := fun k hk => (h_r.ft hk).2
  clear lt_q
  have lt_q : ∀ k, (Ft p_q u_q) k → k < w18.heap.size := fun k hk => (h_q.ft hk).2
  have q_x := v_x.cells
  have l_x := v_x.lt
  have q_y := v_y.cells
  have l_y := v_y.lt
  have q_gl := v_gl.cells
  have l_gl := v_gl.lt
  have q_gt := v_gt.cells
  have l_gt := v_gt.lt
  have q_s := v_s.cells
  have l_s := v_s.lt
  have q_rl := v_rl.cells
  have l_rl := v_rl.lt
  have q_t := v_t.cells
  have l_t := v_t.lt
  have q_rt := v_rt.cells
  have l_rt := v_rt.lt
  (try dsimp only)
  go_wp2_with fail
  clear q_x l_x q_y l_y q_gl l_gl q_gt l_gt q_s l_s q_rl l_rl q_t l_t q_rt l_rt
  refine (refPutTable_any none 0 0 ⟨[], 0⟩ _ rfl (RdB.nil_) (by simp) el ⟨mn2, mx2, has2⟩).mono ?_
  rintro e w19 ⟨A3, c3, rfl, hA3, hb⟩
  replace v_x := v_x.below hb v_x.lt
  replace v_y := v_y.below hb v_y.lt
  replace v_gl := v_gl.below hb v_gl.lt
  replace v_gt := v_gt.below hb v_gt.lt
  replace v_s := v_s.below hb v_s.lt
  replace v_rl := v_rl.below hb v_rl.lt
  replace v_t := v_t.below hb v_t.lt
  replace v_rt := v_rt.below hb v_rt.lt
  replace h_a := h_a.below hb
  replace h_d := h_d.below hb
  replace h_r := h_r.below hb
  replace h_q := h_q.below hb
  replace bw := bw.trans (hb.mono bw.size)
  replace sz := bw.size
  clear hb
  clear lt_a
  have lt_a : ∀ k, (Ft p_a u6_a) k → k < w19.heap.size := fun k hk => (h_a.ft hk).2
  clear lt_d
  have lt_d : ∀ k, (Ft p_d u7_d) k → k < w19.heap.size := fun k hk => (h_d.ft hk).2
  clear lt_r
  have lt_r : ∀ k, (Ft p_r u_r) k → k < w19.heap.size := fun k hk => (h_r.ft hk).2
  clear lt_q
  have lt_q : ∀ k, (Ft p_q u_q) k → k < w19.heap.size := fun k hk => (h_q.ft hk).2
  have q_x := v_x.cells
  have l_x := v_x.lt
  have q_y := v_y.cells
  have l_y := v_y.lt
  have q_gl := v_gl.cells
  have l_gl := v_gl.lt
  have q_gt := v_gt.cells
  have l_gt := v_gt.lt
  have q_s := v_s.cells
  have l_s := v_s.lt
  have q_rl := v_rl.cells
  have l_rl := v_rl.lt
  have q_t := v_t.cells
  have l_t := v_t.lt
  have q_rt := v_rt.cells
  have l_rt := v_rt.lt
  (try dsimp only)
  go_wp2_with fail
  clear q_x l_x q_y l_y q_gl l_gl q_gt l_gt q_s l_s q_rl l_rl q_t l_t q_rt l_rt
  refine (put_any h_d A3 c3 _ rfl hA3 (by omega)).mono ?_
  rintro e w20 ⟨rfl, hb⟩
  replace v_x := v_x.below hb v_x.lt
  replace v_y := v_y.below hb v_y.lt
  replace v_gl := v_gl.below hb v_gl.lt
  replace v_gt := v_gt.below hb v_gt.lt
  replace v_s := v_s.below hb v_s.lt
  replace v_rl := v_rl.below hb v_rl.lt
  replace v_t := v_t.below hb v_t.lt
  replace v_rt := v_rt.below hb v_rt.lt
  replace h_a := h_a.below hb
  replace h_d := h_d.below hb
  replace h_r := h_r.below hb
  replace h_q := h_q.below hb
  replace bw := bw.trans (hb.mono bw.size)
  replace sz := bw.size
  clear hb
  clear lt_a
  have lt_a : ∀ k, (Ft p_a u6_a) k → k < w20.heap.size := fun k hk => (h_a.ft hk).2
  clear lt_d
  have lt_d : ∀ k, (Ft p_d u7_d) k → k < w20.heap.size := fun k hk => (h_d.ft hk).2
  clear lt_r
  have lt_r : ∀ k, (Ft p_r u_r) k → k < w20.heap.size := fun k hk => (h_r.ft hk).2
  clear lt_q
  have lt_q : ∀ k, (Ft p_q u_q) k → k < w20.heap.size := fun k hk => (h_q.ft hk).2
  have q_x := v_x.cells
  have l_x := v_x.lt
  have q_y := v_y.cells
  have l_y := v_y.lt
  have q_gl := v_gl.cells
  have l_gl := v_gl.lt
  have q_gt := v_gt.cells
  have l_gt := v_gt.lt
  have q_s := v_s.cells
  have l_s := v_s.lt
  have q_rl := v_rl.cells
  have l_rl := v_rl.lt
  have q_t := v_t.cells
  have l_t := v_t.lt
  have q_rt := v_rt.cells
  have l_rt := v_rt.lt
  (try dsimp only)
  go_wp2_with fail
  clear q_x l_x q_y l_y q_gl l_gl q_gt l_gt q_s l_s q_rl l_rl q_t l_t q_rt l_rt
  refine (got_any h_r A c _).mono ?_
  rintro e w21 ⟨rfl, hb⟩
  replace v_x := v_x.below hb v_x.lt
  replace v_y := v_y.below hb v_y.lt
  replace v_gl := v_gl.below hb v_gl.lt
  replace v_gt := v_gt.below hb v_gt.lt
  replace v_s := v_s.below hb v_s.lt
  replace v_rl := v_rl.below hb v_rl.lt
  replace v_t := v_t.below hb v_t.lt
  replace v_rt := v_rt.below hb v_rt.lt
  replace h_a := h_a.below hb
  replace h_d := h_d.below hb
  replace h_r := h_r.below hb
  replace h_q := h_q.below hb
  replace bw := bw.trans (hb.mono bw.size)
  replace sz := bw.size
  clear hb
  clear lt_a
  have lt_a : ∀ k, (Ft p_a u6_a) k → k < w21.heap.size := fun k hk => (h_a.ft hk).2
  clear lt_d
  have lt_d : ∀ k, (Ft p_d u7_d) k → k < w21.heap.size := fun k hk => (h_d.ft hk).2
  clear lt_r
  have lt_r : ∀ k, (Ft p_r u_r) k → k < w21.heap.size := fun k hk => (h_r.ft hk).2
  clear lt_q
  have lt_q : ∀ k, (Ft p_q u_q) k → k < w21.heap.size := fun k hk => (h_q.ft hk).2
  have q_x := v_x.cells
  have l_x := v_x.lt
  have q_y := v_y.cells
  have l_y := v_y.lt
  have q_gl := v_gl.cells
  have l_gl := v_gl.lt
  have q_gt := v_gt.cells
  have l_gt := v_gt.lt
  have q_s := v_s.cells
  have l_s := v_s.lt
  have q_rl := v_rl.cells
  have l_rl := v_rl.lt
  have q_t := v_t.cells
  have l_t := v_t.lt
  have q_rt := v_rt.cells
  have l_rt := v_rt.lt
  (try dsimp only)
  go_wp2_with fail
  clear q_x l_x q_y l_y q_gl l_gl q_gt l_gt q_s l_s q_rl l_rl q_t l_t q_rt l_rt
  refine (got_any h_q A c _).mono ?_
  rintro e w22 ⟨rfl, hb⟩
  replace v_x := v_x.below hb v_x.lt
  replace v_y := v_y.below hb v_y.lt
  replace v_gl := v_gl.below hb v_gl.lt
  replace v_gt := v_gt.below hb v_gt.lt
  replace v_s := v_s.below hb v_s.lt
  replace v_rl := v_rl.below hb v_rl.lt
  replace v_t := v_t.below hb v_t.lt
  replace v_rt := v_rt.below hb v_rt.lt
  replace h_a := h_a.below hb
  replace h_d := h_d.below hb
  replace h_r := h_r.below hb
  replace h_q := h_q.below hb
  replace bw := bw.trans (hb.mono bw.size)
  replace sz := bw.size
  clear hb
  clear lt_a
  have lt_a : ∀ k, (Ft p_a u6_a) k → k < w22.heap.size := fun k hk => (h_a.ft hk).2
  clear lt_d
  have lt_d : ∀ k, (Ft p_d u7_d) k → k < w22.heap.size := fun k hk => (h_d.ft hk).2
  clear lt_r
  have lt_r : ∀ k, (Ft p_r u_r) k → k < w22.heap.size := fun k hk => (h_r.ft hk).2
  clear lt_q
  have lt_q : ∀ k, (Ft p_q u_q) k → k < w22.heap.size := fun k hk => (h_q.ft hk).2
  have q_x := v_x.cells
  have l_x := v_x.lt
  have q_y := v_y.cells
  have l_y := v_y.lt
  have q_gl := v_gl.cells
  have l_gl := v_gl.lt
  have q_gt := v_gt.cells
  have l_gt := v_gt.lt
  have q_s := v_s.cells
  have l_s := v_s.lt
  have q_rl := v_rl.cells
  have l_rl := v_rl.lt
  have q_t := v_t.cells
  have l_t := v_t.lt
  have q_rt := v_rt.cells
  have l_rt := v_rt.lt
  (try dsimp only)
  go_wp2_with fail
  clear q_x l_x q_y l_y q_gl l_gl q_gt l_gt q_s l_s q_rl l_rl q_t l_t q_rt l_rt
  refine (alive_any _).mono ?_
  rintro e w23 ⟨rfl, hb⟩
  replace v_x := v_x.below hb v_x.lt
  replace v_y := v_y.below hb v_y.lt
  replace v_gl := v_gl.below hb v_gl.lt
  replace v_gt := v_gt.below hb v_gt.lt
  replace v_s := v_s.below hb v_s.lt
  replace v_rl := v_rl.below hb v_rl.lt
  replace v_t := v_t.below hb v_t.lt
  replace v_rt := v_rt.below hb v_rt.lt
  replace h_a := h_a.below hb
  replace h_d := h_d.below hb
  replace h_r := h_r.below hb
  replace h_q := h_q.below hb
  replace bw := bw.trans (hb.mono bw.size)
  replace sz := bw.size
  clear hb
  clear lt_a
  have lt_a : ∀ k, (Ft p_a u6_a) k → k < w23.heap.size := fun k hk => (h_a.ft hk).2
  clear lt_d
  have lt_d : ∀ k, (Ft p_d u7_d) k → k < w23.heap.size := fun k hk => (h_d.ft hk).2
  clear lt_r
  have lt_r : ∀ k, (Ft p_r u_r) k → k < w23.heap.size := fun k hk => (h_r.ft hk).2
  clear lt_q
  have lt_q : ∀ k, (Ft p_q u_q) k → k < w23.heap.size := fun k hk => (h_q.ft hk).2
  have q_x := v_x.cells
  have l_x := v_x.lt
  have q_y := v_y.cells
  have l_y := v_y.lt
  have q_gl := v_gl.cells
  have l_gl := v_gl.lt
  have q_gt := v_gt.cells
  have l_gt := v_gt.lt
  have q_s := v_s.cells
  have l_s := v_s.lt
  have q_rl := v_rl.cells
  have l_rl := v_rl.lt
  have q_t := v_t.cells
  have l_t := v_t.lt
  have q_rt := v_rt.cells
  have l_rt := v_rt.lt
  go_wp2
  go_ret
  exact ⟨rfl, bw⟩
end Go.Proofs.Ytagcildoebicnaa
