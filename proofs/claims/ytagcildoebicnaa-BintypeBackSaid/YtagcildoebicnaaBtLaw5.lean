/-
  The walk of the law BintypeBack.
-/
import Derived.Test.YtagcildoebicnaaBtBackP
set_option linter.unusedVariables false
set_option linter.unusedSimpArgs false
namespace Go.Proofs.Ytagcildoebicnaa
open Go.RowKit

theorem Var.newE3 (W : World) (o o' : Obj) (cs : Array Value) (e : TypeId) {K : Nat} (h : W.heap.size = K) : Var (((W.alloc o).alloc o').alloc (.cells cs e)) (K + 2) cs e := h ▸ Var.new3 W o o' cs e
theorem Oct.putGlobal_len (s : Oct.Wt) (t : Int) (mu : Bool) : (Oct.putGlobal s t mu).b.length ≤ s.b.length + 2 := by
  rw [Oct.putGlobal_eq]
  have h1 := Oct.putVal_len s t
  have h2 := Oct.bytes_len (Oct.putVal s t) [if mu then 1 else 0]
  simp only [List.length_singleton] at h2
  omega
theorem end_yes {W : World} {B : Nat} {p v : Value} {b : List UInt8} (h : RdrAt W B p v b ⟨b.length, 0⟩) :
    Calls Try.prog 45 #[p] W fun e w' => e = .returned (.int .i64 0) ∧ Below W.heap.size W w' := by
  refine (end_any h).mono ?_
  rintro e w' ⟨rfl, q, rfl⟩
  exact ⟨by simp, below_drewN_ (Below.refl _ _) _⟩

set_option maxHeartbeats 16000000 in
set_option maxRecDepth 100000 in
theorem bintypeBack_walk (F1 F2 : Option Addr) (d1 d2 : Nat) (ps rs : List Int) (lmn lmx : Int) (lh : Bool) (tel tmn tmx : Int) (th : Bool) (gv : Int) (gm : Bool) (bk bt bi : Int) (w : World)
    (hp : RdI w w.heap.size F1 ps) (hq : RdI w w.heap.size F2 rs) (hpm : ps.length ≤ maxLen) (hqm : rs.length ≤ maxLen) :
    Calls Try.prog 9 #[.agg #[.slice F1 ps.length d1, .slice F2 rs.length d2, .int .i64 lmn, .int .i64 lmx, .bool lh, .int .i64 tel, .int .i64 tmn, .int .i64 tmx, .bool th, .int .i64 gv, .bool gm, .int .i64 bk, .int .i64 bt, .int .i64 bi]] w fun e w' => e = .returned (.bool true) ∧ Below w.heap.size w w' := by
  have hpm' : ps.length ≤ 9223372036854775807 := by unfold maxLen at hpm; omega
  have hqm' : rs.length ≤ 9223372036854775807 := by unfold maxLen at hqm; omega
  clear hpm hqm
  by_cases h2 : 60 < ps.length
  · skip
    have g2 : decide (60 < ps.length) = true := by simpa using h2
    have g2b : decide ((60 : Int) < (ps.length : Int)) = true := by simp; omega
    clear h2
    go_enter Try.func9, Try.ntmps9
    (try dsimp only)
    go_wp2_with fail
    refine at_world (F := fun w' => Var w' (w.heap.size) #[.slice F1 ps.length d1, .slice F2 rs.length d2, .int .i64 lmn, .int .i64 lmx, .bool lh, .int .i64 tel, .int .i64 tmn, .int .i64 tmx, .bool th, .int .i64 gv, .bool gm, .int .i64 bk, .int .i64 bt, .int .i64 bi] 90 ∧ Below w.heap.size w w') ⟨Var.new w _ _, by go_grown⟩ ?_
    rintro w1 ⟨v_f, bw⟩
    have sz := bw.size
    refine (alive_any _).mono ?_
    rintro e w2 ⟨rfl, hb⟩
    replace v_f := v_f.below hb v_f.lt
    replace bw := bw.trans (hb.mono bw.size)
    replace sz := bw.size
    clear hb
    have q_f := v_f.cells
    have l_f := v_f.lt
    go_wp2
    go_ret
    exact ⟨rfl, bw⟩
  have g2 : decide (60 < ps.length) = false := by simpa using h2
  have g2b : decide ((60 : Int) < (ps.length : Int)) = false := by simp; omega
  by_cases h3 : 60 < rs.length
  · skip
    have g3 : decide (60 < rs.length) = true := by simpa using h3
    have g3b : decide ((60 : Int) < (rs.length : Int)) = true := by simp; omega
    clear h2 h3
    go_enter Try.func9, Try.ntmps9
    (try dsimp only)
    go_wp2_with fail
    refine at_world (F := fun w' => Var w' (w.heap.size) #[.slice F1 ps.length d1, .slice F2 rs.length d2, .int .i64 lmn, .int .i64 lmx, .bool lh, .int .i64 tel, .int .i64 tmn, .int .i64 tmx, .bool th, .int .i64 gv, .bool gm, .int .i64 bk, .int .i64 bt, .int .i64 bi] 90 ∧ Below w.heap.size w w') ⟨Var.new w _ _, by go_grown⟩ ?_
    rintro w1 ⟨v_f, bw⟩
    have sz := bw.size
    refine (alive_any _).mono ?_
    rintro e w2 ⟨rfl, hb⟩
    replace v_f := v_f.below hb v_f.lt
    replace bw := bw.trans (hb.mono bw.size)
    replace sz := bw.size
    clear hb
    have q_f := v_f.cells
    have l_f := v_f.lt
    go_wp2
    go_ret
    exact ⟨rfl, bw⟩
  have g3 : decide (60 < rs.length) = false := by simpa using h3
  have g3b : decide ((60 : Int) < (rs.length : Int)) = false := by simp; omega
  have hp6 : ps.length ≤ 60 := by omega
  have hq6 : rs.length ≤ 60 := by omega
  clear h2 h3
  have HP := Lib.hid hp
  have HQ := Lib.hid hq
  clear hp hq
  have hall := Oct.all_back ps rs ⟨lmn, lmx, lh⟩ tel ⟨tmn, tmx, th⟩ gv gm ⟨bk, bt, bi⟩
  unfold Oct.allPut at hall
  have hl1 := Oct.putFunc_len ⟨[], 0⟩ ps rs
  simp only [List.length_nil] at hl1
  obtain ⟨s1, hs⟩ : ∃ s, Oct.putFunc ⟨[], 0⟩ ps rs = s := ⟨_, rfl⟩
  rw [hs] at hall hl1
  have H1 := Lib.hid hs
  clear hs
  have hl2 := Oct.putLim_len s1 ⟨lmn, lmx, lh⟩
  obtain ⟨s2, hs⟩ : ∃ s, Oct.putLim s1 ⟨lmn, lmx, lh⟩ = s := ⟨_, rfl⟩
  rw [hs] at hall hl2
  have H2 := Lib.hid hs
  clear hs
  have hl3 := Oct.putTable_len s2 tel ⟨tmn, tmx, th⟩
  obtain ⟨s3, hs⟩ : ∃ s, Oct.putTable s2 tel ⟨tmn, tmx, th⟩ = s := ⟨_, rfl⟩
  rw [hs] at hall hl3
  have H3 := Lib.hid hs
  clear hs
  have hl4 := Oct.putGlobal_len s3 gv gm
  obtain ⟨s4, hs⟩ : ∃ s, Oct.putGlobal s3 gv gm = s := ⟨_, rfl⟩
  rw [hs] at hall hl4
  have H4 := Lib.hid hs
  clear hs
  have hl5 := Oct.putBlock_len s4 ⟨bk, bt, bi⟩
  obtain ⟨⟨b, er⟩, hs⟩ : ∃ s, Oct.putBlock s4 ⟨bk, bt, bi⟩ = s := ⟨_, rfl⟩
  rw [hs] at hall hl5
  have H5 := Lib.hid hs
  clear hs
  dsimp only at hall hl5
  have hb1 : s1.b.length ≤ 1000 := by omega
  have hb2 : s2.b.length ≤ 1000 := by omega
  have hb3 : s3.b.length ≤ 1000 := by omega
  have hb4 : s4.b.length ≤ 1000 := by omega
  have hb5 : b.length ≤ 1000 := by omega
  clear hl1 hl2 hl3 hl4 hl5
  have hb6 : b.length ≤ 1000000 := by omega
  have hbm : b.length ≤ 9223372036854775807 := by omega
  rcases hall with (rfl | rfl | rfl) | ⟨rfl, m1, m2, m3, m4, y1, y2, y3, y4, y5⟩
  · skip
    go_enter Try.func9, Try.ntmps9
    (try dsimp only)
    go_wp2_with fail
    refine at_world (F := fun w' => Var w' (w.heap.size) #[.slice F1 ps.length d1, .slice F2 rs.length d2, .int .i64 lmn, .int .i64 lmx, .bool lh, .int .i64 tel, .int .i64 tmn, .int .i64 tmx, .bool th, .int .i64 gv, .bool gm, .int .i64 bk, .int .i64 bt, .int .i64 bi] 90 ∧ Below w.heap.size w w') ⟨Var.new w _ _, by go_grown⟩ ?_
    rintro w1 ⟨v_f, bw⟩
    have sz := bw.size
    have lq_f := v_f.lt
    refine (new_any w1 _ (Nat.le_refl _)).mono ?_
    rintro e w2 ⟨p_a, u_a, rfl, h_a, hb, hf⟩
    replace v_f := v_f.below hb v_f.lt
    have D_a_f : DJ (Ft p_a u_a) (· = w.heap.size) := (DJ.fresh (N := w1.heap.size) (fun k hk => by subst hk; exact lq_f) hf).symm
    have sb_a : w.heap.size ≤ w1.heap.size := sz
    replace bw := bw.trans (hb.mono bw.size)
    replace sz := bw.size
    clear hb hf lq_f
    skip
    have lt_a : ∀ k, (Ft p_a u_a) k → k < w2.heap.size := fun k hk => (h_a.ft hk).2
    have q_f := v_f.cells
    have l_f := v_f.lt
    (try dsimp only)
    go_wp2_with fail
    clear q_f l_f
    have lq_f := v_f.lt
    refine (putFunc_any h_a F1 F2 d1 d2 ps rs (Lst.param HP.out bw (fun k hk => Nat.le_trans sb_a (h_a.ft hk).1)) (Lst.param HQ.out bw (fun k hk => Nat.le_trans sb_a (h_a.ft hk).1)) (by simp) (by omega) (by omega)).mono ?_
    rintro e w3 ⟨rfl, u3_a, hh, tt⟩; rw [H1.out] at hh
    replace v_f := v_f.trn tt D_a_f
    replace D_a_f : DJ (Ft p_a u3_a) (· = w.heap.size) := D_a_f.step tt (fun k hk => by subst hk; exact lq_f)
    clear h_a
    have h_a := hh
    replace bw := bw.trans (tt.bel.mono sb_a)
    replace sz := bw.size
    clear hh tt lq_f
    clear lt_a
    have lt_a : ∀ k, (Ft p_a u3_a) k → k < w3.heap.size := fun k hk => (h_a.ft hk).2
    have q_f := v_f.cells
    have l_f := v_f.lt
    (try dsimp only)
    go_wp2_with fail
    clear q_f l_f
    have lq_f := v_f.lt
    refine (putLim_any h_a ⟨lmn, lmx, lh⟩ (by omega)).mono ?_
    rintro e w4 ⟨rfl, u4_a, hh, tt⟩; rw [H2.out] at hh
    replace v_f := v_f.trn tt D_a_f
    replace D_a_f : DJ (Ft p_a u4_a) (· = w.heap.size) := D_a_f.step tt (fun k hk => by subst hk; exact lq_f)
    clear h_a
    have h_a := hh
    replace bw := bw.trans (tt.bel.mono sb_a)
    replace sz := bw.size
    clear hh tt lq_f
    clear lt_a
    have lt_a : ∀ k, (Ft p_a u4_a) k → k < w4.heap.size := fun k hk => (h_a.ft hk).2
    have q_f := v_f.cells
    have l_f := v_f.lt
    (try dsimp only)
    go_wp2_with fail
    clear q_f l_f
    have lq_f := v_f.lt
    refine (putTable_any h_a tel ⟨tmn, tmx, th⟩ (by omega)).mono ?_
    rintro e w5 ⟨rfl, u5_a, hh, tt⟩; rw [H3.out] at hh
    replace v_f := v_f.trn tt D_a_f
    replace D_a_f : DJ (Ft p_a u5_a) (· = w.heap.size) := D_a_f.step tt (fun k hk => by subst hk; exact lq_f)
    clear h_a
    have h_a := hh
    replace bw := bw.trans (tt.bel.mono sb_a)
    replace sz := bw.size
    clear hh tt lq_f
    clear lt_a
    have lt_a : ∀ k, (Ft p_a u5_a) k → k < w5.heap.size := fun k hk => (h_a.ft hk).2
    have q_f := v_f.cells
    have l_f := v_f.lt
    (try dsimp only)
    go_wp2_with fail
    clear q_f l_f
    have lq_f := v_f.lt
    refine (putGlobal_any h_a gv gm (by omega)).mono ?_
    rintro e w6 ⟨rfl, u6_a, hh, tt⟩; rw [H4.out] at hh
    replace v_f := v_f.trn tt D_a_f
    replace D_a_f : DJ (Ft p_a u6_a) (· = w.heap.size) := D_a_f.step tt (fun k hk => by subst hk; exact lq_f)
    clear h_a
    have h_a := hh
    replace bw := bw.trans (tt.bel.mono sb_a)
    replace sz := bw.size
    clear hh tt lq_f
    clear lt_a
    have lt_a : ∀ k, (Ft p_a u6_a) k → k < w6.heap.size := fun k hk => (h_a.ft hk).2
    have q_f := v_f.cells
    have l_f := v_f.lt
    (try dsimp only)
    go_wp2_with fail
    clear q_f l_f
    have lq_f := v_f.lt
    refine (putBlock_any h_a ⟨bk, bt, bi⟩ (by omega)).mono ?_
    rintro e w7 ⟨rfl, u7_a, hh, tt⟩; rw [H5.out] at hh
    replace v_f := v_f.trn tt D_a_f
    replace D_a_f : DJ (Ft p_a u7_a) (· = w.heap.size) := D_a_f.step tt (fun k hk => by subst hk; exact lq_f)
    clear h_a
    have h_a := hh
    replace bw := bw.trans (tt.bel.mono sb_a)
    replace sz := bw.size
    clear hh tt lq_f
    clear lt_a
    have lt_a : ∀ k, (Ft p_a u7_a) k → k < w7.heap.size := fun k hk => (h_a.ft hk).2
    have q_f := v_f.cells
    have l_f := v_f.lt
    (try dsimp only)
    go_wp2_with fail
    clear q_f l_f
    refine (wdone_any h_a (by show b.length ≤ _; omega)).mono ?_
    rintro e w8 ⟨A2, c2, rfl, -, hb⟩
    replace v_f := v_f.below hb v_f.lt
    replace h_a := h_a.below hb
    rw [show doneB ⟨b, 6⟩ = [] from if_neg (by decide : ¬ (6 : Int) = 0)]
    simp only [List.length_nil]
    replace bw := bw.trans (hb.mono bw.size)
    replace sz := bw.size
    clear hb
    clear lt_a
    have lt_a : ∀ k, (Ft p_a u7_a) k → k < w8.heap.size := fun k hk => (h_a.ft hk).2
    have q_f := v_f.cells
    have l_f := v_f.lt
    clear h_a lt_a sb_a D_a_f
    (try dsimp only)
    go_wp2_with fail
    clear q_f l_f
    refine (alive_any _).mono ?_
    rintro e w9 ⟨rfl, hb⟩
    replace v_f := v_f.below hb v_f.lt
    replace bw := bw.trans (hb.mono bw.size)
    replace sz := bw.size
    clear hb
    have q_f := v_f.cells
    have l_f := v_f.lt
    go_wp2
    go_ret
    exact ⟨rfl, bw⟩
  · skip
    go_enter Try.func9, Try.ntmps9
    (try dsimp only)
    go_wp2_with fail
    refine at_world (F := fun w' => Var w' (w.heap.size) #[.slice F1 ps.length d1, .slice F2 rs.length d2, .int .i64 lmn, .int .i64 lmx, .bool lh, .int .i64 tel, .int .i64 tmn, .int .i64 tmx, .bool th, .int .i64 gv, .bool gm, .int .i64 bk, .int .i64 bt, .int .i64 bi] 90 ∧ Below w.heap.size w w') ⟨Var.new w _ _, by go_grown⟩ ?_
    rintro w1 ⟨v_f, bw⟩
    have sz := bw.size
    have lq_f := v_f.lt
    refine (new_any w1 _ (Nat.le_refl _)).mono ?_
    rintro e w2 ⟨p_a, u_a, rfl, h_a, hb, hf⟩
    replace v_f := v_f.below hb v_f.lt
    have D_a_f : DJ (Ft p_a u_a) (· = w.heap.size) := (DJ.fresh (N := w1.heap.size) (fun k hk => by subst hk; exact lq_f) hf).symm
    have sb_a : w.heap.size ≤ w1.heap.size := sz
    replace bw := bw.trans (hb.mono bw.size)
    replace sz := bw.size
    clear hb hf lq_f
    skip
    have lt_a : ∀ k, (Ft p_a u_a) k → k < w2.heap.size := fun k hk => (h_a.ft hk).2
    have q_f := v_f.cells
    have l_f := v_f.lt
    (try dsimp only)
    go_wp2_with fail
    clear q_f l_f
    have lq_f := v_f.lt
    refine (putFunc_any h_a F1 F2 d1 d2 ps rs (Lst.param HP.out bw (fun k hk => Nat.le_trans sb_a (h_a.ft hk).1)) (Lst.param HQ.out bw (fun k hk => Nat.le_trans sb_a (h_a.ft hk).1)) (by simp) (by omega) (by omega)).mono ?_
    rintro e w3 ⟨rfl, u3_a, hh, tt⟩; rw [H1.out] at hh
    replace v_f := v_f.trn tt D_a_f
    replace D_a_f : DJ (Ft p_a u3_a) (· = w.heap.size) := D_a_f.step tt (fun k hk => by subst hk; exact lq_f)
    clear h_a
    have h_a := hh
    replace bw := bw.trans (tt.bel.mono sb_a)
    replace sz := bw.size
    clear hh tt lq_f
    clear lt_a
    have lt_a : ∀ k, (Ft p_a u3_a) k → k < w3.heap.size := fun k hk => (h_a.ft hk).2
    have q_f := v_f.cells
    have l_f := v_f.lt
    (try dsimp only)
    go_wp2_with fail
    clear q_f l_f
    have lq_f := v_f.lt
    refine (putLim_any h_a ⟨lmn, lmx, lh⟩ (by omega)).mono ?_
    rintro e w4 ⟨rfl, u4_a, hh, tt⟩; rw [H2.out] at hh
    replace v_f := v_f.trn tt D_a_f
    replace D_a_f : DJ (Ft p_a u4_a) (· = w.heap.size) := D_a_f.step tt (fun k hk => by subst hk; exact lq_f)
    clear h_a
    have h_a := hh
    replace bw := bw.trans (tt.bel.mono sb_a)
    replace sz := bw.size
    clear hh tt lq_f
    clear lt_a
    have lt_a : ∀ k, (Ft p_a u4_a) k → k < w4.heap.size := fun k hk => (h_a.ft hk).2
    have q_f := v_f.cells
    have l_f := v_f.lt
    (try dsimp only)
    go_wp2_with fail
    clear q_f l_f
    have lq_f := v_f.lt
    refine (putTable_any h_a tel ⟨tmn, tmx, th⟩ (by omega)).mono ?_
    rintro e w5 ⟨rfl, u5_a, hh, tt⟩; rw [H3.out] at hh
    replace v_f := v_f.trn tt D_a_f
    replace D_a_f : DJ (Ft p_a u5_a) (· = w.heap.size) := D_a_f.step tt (fun k hk => by subst hk; exact lq_f)
    clear h_a
    have h_a := hh
    replace bw := bw.trans (tt.bel.mono sb_a)
    replace sz := bw.size
    clear hh tt lq_f
    clear lt_a
    have lt_a : ∀ k, (Ft p_a u5_a) k → k < w5.heap.size := fun k hk => (h_a.ft hk).2
    have q_f := v_f.cells
    have l_f := v_f.lt
    (try dsimp only)
    go_wp2_with fail
    clear q_f l_f
    have lq_f := v_f.lt
    refine (putGlobal_any h_a gv gm (by omega)).mono ?_
    rintro e w6 ⟨rfl, u6_a, hh, tt⟩; rw [H4.out] at hh
    replace v_f := v_f.trn tt D_a_f
    replace D_a_f : DJ (Ft p_a u6_a) (· = w.heap.size) := D_a_f.step tt (fun k hk => by subst hk; exact lq_f)
    clear h_a
    have h_a := hh
    replace bw := bw.trans (tt.bel.mono sb_a)
    replace sz := bw.size
    clear hh tt lq_f
    clear lt_a
    have lt_a : ∀ k, (Ft p_a u6_a) k → k < w6.heap.size := fun k hk => (h_a.ft hk).2
    have q_f := v_f.cells
    have l_f := v_f.lt
    (try dsimp only)
    go_wp2_with fail
    clear q_f l_f
    have lq_f := v_f.lt
    refine (putBlock_any h_a ⟨bk, bt, bi⟩ (by omega)).mono ?_
    rintro e w7 ⟨rfl, u7_a, hh, tt⟩; rw [H5.out] at hh
    replace v_f := v_f.trn tt D_a_f
    replace D_a_f : DJ (Ft p_a u7_a) (· = w.heap.size) := D_a_f.step tt (fun k hk => by subst hk; exact lq_f)
    clear h_a
    have h_a := hh
    replace bw := bw.trans (tt.bel.mono sb_a)
    replace sz := bw.size
    clear hh tt lq_f
    clear lt_a
    have lt_a : ∀ k, (Ft p_a u7_a) k → k < w7.heap.size := fun k hk => (h_a.ft hk).2
    have q_f := v_f.cells
    have l_f := v_f.lt
    (try dsimp only)
    go_wp2_with fail
    clear q_f l_f
    refine (wdone_any h_a (by show b.length ≤ _; omega)).mono ?_
    rintro e w8 ⟨A2, c2, rfl, -, hb⟩
    replace v_f := v_f.below hb v_f.lt
    replace h_a := h_a.below hb
    rw [show doneB ⟨b, 12⟩ = [] from if_neg (by decide : ¬ (12 : Int) = 0)]
    simp only [List.length_nil]
    replace bw := bw.trans (hb.mono bw.size)
    replace sz := bw.size
    clear hb
    clear lt_a
    have lt_a : ∀ k, (Ft p_a u7_a) k → k < w8.heap.size := fun k hk => (h_a.ft hk).2
    have q_f := v_f.cells
    have l_f := v_f.lt
    clear h_a lt_a sb_a D_a_f
    (try dsimp only)
    go_wp2_with fail
    clear q_f l_f
    refine (alive_any _).mono ?_
    rintro e w9 ⟨rfl, hb⟩
    replace v_f := v_f.below hb v_f.lt
    replace bw := bw.trans (hb.mono bw.size)
    replace sz := bw.size
    clear hb
    have q_f := v_f.cells
    have l_f := v_f.lt
    go_wp2
    go_ret
    exact ⟨rfl, bw⟩
  · skip
    go_enter Try.func9, Try.ntmps9
    (try dsimp only)
    go_wp2_with fail
    refine at_world (F := fun w' => Var w' (w.heap.size) #[.slice F1 ps.length d1, .slice F2 rs.length d2, .int .i64 lmn, .int .i64 lmx, .bool lh, .int .i64 tel, .int .i64 tmn, .int .i64 tmx, .bool th, .int .i64 gv, .bool gm, .int .i64 bk, .int .i64 bt, .int .i64 bi] 90 ∧ Below w.heap.size w w') ⟨Var.new w _ _, by go_grown⟩ ?_
    rintro w1 ⟨v_f, bw⟩
    have sz := bw.size
    have lq_f := v_f.lt
    refine (new_any w1 _ (Nat.le_refl _)).mono ?_
    rintro e w2 ⟨p_a, u_a, rfl, h_a, hb, hf⟩
    replace v_f := v_f.below hb v_f.lt
    have D_a_f : DJ (Ft p_a u_a) (· = w.heap.size) := (DJ.fresh (N := w1.heap.size) (fun k hk => by subst hk; exact lq_f) hf).symm
    have sb_a : w.heap.size ≤ w1.heap.size := sz
    replace bw := bw.trans (hb.mono bw.size)
    replace sz := bw.size
    clear hb hf lq_f
    skip
    have lt_a : ∀ k, (Ft p_a u_a) k → k < w2.heap.size := fun k hk => (h_a.ft hk).2
    have q_f := v_f.cells
    have l_f := v_f.lt
    (try dsimp only)
    go_wp2_with fail
    clear q_f l_f
    have lq_f := v_f.lt
    refine (putFunc_any h_a F1 F2 d1 d2 ps rs (Lst.param HP.out bw (fun k hk => Nat.le_trans sb_a (h_a.ft hk).1)) (Lst.param HQ.out bw (fun k hk => Nat.le_trans sb_a (h_a.ft hk).1)) (by simp) (by omega) (by omega)).mono ?_
    rintro e w3 ⟨rfl, u3_a, hh, tt⟩; rw [H1.out] at hh
    replace v_f := v_f.trn tt D_a_f
    replace D_a_f : DJ (Ft p_a u3_a) (· = w.heap.size) := D_a_f.step tt (fun k hk => by subst hk; exact lq_f)
    clear h_a
    have h_a := hh
    replace bw := bw.trans (tt.bel.mono sb_a)
    replace sz := bw.size
    clear hh tt lq_f
    clear lt_a
    have lt_a : ∀ k, (Ft p_a u3_a) k → k < w3.heap.size := fun k hk => (h_a.ft hk).2
    have q_f := v_f.cells
    have l_f := v_f.lt
    (try dsimp only)
    go_wp2_with fail
    clear q_f l_f
    have lq_f := v_f.lt
    refine (putLim_any h_a ⟨lmn, lmx, lh⟩ (by omega)).mono ?_
    rintro e w4 ⟨rfl, u4_a, hh, tt⟩; rw [H2.out] at hh
    replace v_f := v_f.trn tt D_a_f
    replace D_a_f : DJ (Ft p_a u4_a) (· = w.heap.size) := D_a_f.step tt (fun k hk => by subst hk; exact lq_f)
    clear h_a
    have h_a := hh
    replace bw := bw.trans (tt.bel.mono sb_a)
    replace sz := bw.size
    clear hh tt lq_f
    clear lt_a
    have lt_a : ∀ k, (Ft p_a u4_a) k → k < w4.heap.size := fun k hk => (h_a.ft hk).2
    have q_f := v_f.cells
    have l_f := v_f.lt
    (try dsimp only)
    go_wp2_with fail
    clear q_f l_f
    have lq_f := v_f.lt
    refine (putTable_any h_a tel ⟨tmn, tmx, th⟩ (by omega)).mono ?_
    rintro e w5 ⟨rfl, u5_a, hh, tt⟩; rw [H3.out] at hh
    replace v_f := v_f.trn tt D_a_f
    replace D_a_f : DJ (Ft p_a u5_a) (· = w.heap.size) := D_a_f.step tt (fun k hk => by subst hk; exact lq_f)
    clear h_a
    have h_a := hh
    replace bw := bw.trans (tt.bel.mono sb_a)
    replace sz := bw.size
    clear hh tt lq_f
    clear lt_a
    have lt_a : ∀ k, (Ft p_a u5_a) k → k < w5.heap.size := fun k hk => (h_a.ft hk).2
    have q_f := v_f.cells
    have l_f := v_f.lt
    (try dsimp only)
    go_wp2_with fail
    clear q_f l_f
    have lq_f := v_f.lt
    refine (putGlobal_any h_a gv gm (by omega)).mono ?_
    rintro e w6 ⟨rfl, u6_a, hh, tt⟩; rw [H4.out] at hh
    replace v_f := v_f.trn tt D_a_f
    replace D_a_f : DJ (Ft p_a u6_a) (· = w.heap.size) := D_a_f.step tt (fun k hk => by subst hk; exact lq_f)
    clear h_a
    have h_a := hh
    replace bw := bw.trans (tt.bel.mono sb_a)
    replace sz := bw.size
    clear hh tt lq_f
    clear lt_a
    have lt_a : ∀ k, (Ft p_a u6_a) k → k < w6.heap.size := fun k hk => (h_a.ft hk).2
    have q_f := v_f.cells
    have l_f := v_f.lt
    (try dsimp only)
    go_wp2_with fail
    clear q_f l_f
    have lq_f := v_f.lt
    refine (putBlock_any h_a ⟨bk, bt, bi⟩ (by omega)).mono ?_
    rintro e w7 ⟨rfl, u7_a, hh, tt⟩; rw [H5.out] at hh
    replace v_f := v_f.trn tt D_a_f
    replace D_a_f : DJ (Ft p_a u7_a) (· = w.heap.size) := D_a_f.step tt (fun k hk => by subst hk; exact lq_f)
    clear h_a
    have h_a := hh
    replace bw := bw.trans (tt.bel.mono sb_a)
    replace sz := bw.size
    clear hh tt lq_f
    clear lt_a
    have lt_a : ∀ k, (Ft p_a u7_a) k → k < w7.heap.size := fun k hk => (h_a.ft hk).2
    have q_f := v_f.cells
    have l_f := v_f.lt
    (try dsimp only)
    go_wp2_with fail
    clear q_f l_f
    refine (wdone_any h_a (by show b.length ≤ _; omega)).mono ?_
    rintro e w8 ⟨A2, c2, rfl, -, hb⟩
    replace v_f := v_f.below hb v_f.lt
    replace h_a := h_a.below hb
    rw [show doneB ⟨b, 20⟩ = [] from if_neg (by decide : ¬ (20 : Int) = 0)]
    simp only [List.length_nil]
    replace bw := bw.trans (hb.mono bw.size)
    replace sz := bw.size
    clear hb
    clear lt_a
    have lt_a : ∀ k, (Ft p_a u7_a) k → k < w8.heap.size := fun k hk => (h_a.ft hk).2
    have q_f := v_f.cells
    have l_f := v_f.lt
    clear h_a lt_a sb_a D_a_f
    (try dsimp only)
    go_wp2_with fail
    clear q_f l_f
    refine (alive_any _).mono ?_
    rintro e w9 ⟨rfl, hb⟩
    replace v_f := v_f.below hb v_f.lt
    replace bw := bw.trans (hb.mono bw.size)
    replace sz := bw.size
    clear hb
    have q_f := v_f.cells
    have l_f := v_f.lt
    go_wp2
    go_ret
    exact ⟨rfl, bw⟩
  have HY1 := Lib.hid y1
  have HY2 := Lib.hid y2
  have HY3 := Lib.hid y3
  have HY4 := Lib.hid y4
  have HY5 := Lib.hid y5
  clear y1 y2 y3 y4 y5
  have z2 : ∀ w, (binOp .eql 52 (.agg #[.int .i64 lmn, .int .i64 lmx, .bool lh]) (.agg #[.int .i64 lmn, .int .i64 lmx, .bool lh])).run Try.prog w = .ok (.bool true) w := fun w => by rw [eq_lim]; simp
  have z3 : ∀ w, (binOp .eql 54 (.agg #[.int .i64 tel, .int .i64 tmn, .int .i64 tmx, .bool th]) (.agg #[.int .i64 tel, .int .i64 tmn, .int .i64 tmx, .bool th])).run Try.prog w = .ok (.bool true) w := fun w => by rw [eq_table]; simp
  have z4 : ∀ w, (binOp .eql 67 (.agg #[.int .i64 gv, .bool gm]) (.agg #[.int .i64 gv, .bool gm])).run Try.prog w = .ok (.bool true) w := fun w => by rw [eq_glob]; simp
  have z5 : ∀ w, (binOp .eql 25 (.agg #[.int .i64 bk, .int .i64 bt, .int .i64 bi]) (.agg #[.int .i64 bk, .int .i64 bt, .int .i64 bi])).run Try.prog w = .ok (.bool true) w := fun w => by rw [eq_blk]; simp
  go_enter Try.func9, Try.ntmps9
  (try dsimp only)
  go_wp2_with fail
  refine at_world (F := fun w' => Var w' (w.heap.size) #[.slice F1 ps.length d1, .slice F2 rs.length d2, .int .i64 lmn, .int .i64 lmx, .bool lh, .int .i64 tel, .int .i64 tmn, .int .i64 tmx, .bool th, .int .i64 gv, .bool gm, .int .i64 bk, .int .i64 bt, .int .i64 bi] 90 ∧ Below w.heap.size w w') ⟨Var.new w _ _, by go_grown⟩ ?_
  rintro w1 ⟨v_f, bw⟩
  have sz := bw.size
  have lq_f := v_f.lt
  refine (new_any w1 _ (Nat.le_refl _)).mono ?_
  rintro e w2 ⟨p_a, u_a, rfl, h_a, hb, hf⟩
  replace v_f := v_f.below hb v_f.lt
  have D_a_f : DJ (Ft p_a u_a) (· = w.heap.size) := (DJ.fresh (N := w1.heap.size) (fun k hk => by subst hk; exact lq_f) hf).symm
  have sb_a : w.heap.size ≤ w1.heap.size := sz
  replace bw := bw.trans (hb.mono bw.size)
  replace sz := bw.size
  clear hb hf lq_f
  skip
  have lt_a : ∀ k, (Ft p_a u_a) k → k < w2.heap.size := fun k hk => (h_a.ft hk).2
  have q_f := v_f.cells
  have l_f := v_f.lt
  (try dsimp only)
  go_wp2_with fail
  clear q_f l_f
  have lq_f := v_f.lt
  refine (putFunc_any h_a F1 F2 d1 d2 ps rs (Lst.param HP.out bw (fun k hk => Nat.le_trans sb_a (h_a.ft hk).1)) (Lst.param HQ.out bw (fun k hk => Nat.le_trans sb_a (h_a.ft hk).1)) (by simp) (by omega) (by omega)).mono ?_
  rintro e w3 ⟨rfl, u3_a, hh, tt⟩; rw [H1.out] at hh
  replace v_f := v_f.trn tt D_a_f
  replace D_a_f : DJ (Ft p_a u3_a) (· = w.heap.size) := D_a_f.step tt (fun k hk => by subst hk; exact lq_f)
  clear h_a
  have h_a := hh
  replace bw := bw.trans (tt.bel.mono sb_a)
  replace sz := bw.size
  clear hh tt lq_f
  clear lt_a
  have lt_a : ∀ k, (Ft p_a u3_a) k → k < w3.heap.size := fun k hk => (h_a.ft hk).2
  have q_f := v_f.cells
  have l_f := v_f.lt
  (try dsimp only)
  go_wp2_with fail
  clear q_f l_f
  have lq_f := v_f.lt
  refine (putLim_any h_a ⟨lmn, lmx, lh⟩ (by omega)).mono ?_
  rintro e w4 ⟨rfl, u4_a, hh, tt⟩; rw [H2.out] at hh
  replace v_f := v_f.trn tt D_a_f
  replace D_a_f : DJ (Ft p_a u4_a) (· = w.heap.size) := D_a_f.step tt (fun k hk => by subst hk; exact lq_f)
  clear h_a
  have h_a := hh
  replace bw := bw.trans (tt.bel.mono sb_a)
  replace sz := bw.size
  clear hh tt lq_f
  clear lt_a
  have lt_a : ∀ k, (Ft p_a u4_a) k → k < w4.heap.size := fun k hk => (h_a.ft hk).2
  have q_f := v_f.cells
  have l_f := v_f.lt
  (try dsimp only)
  go_wp2_with fail
  clear q_f l_f
  have lq_f := v_f.lt
  refine (putTable_any h_a tel ⟨tmn, tmx, th⟩ (by omega)).mono ?_
  rintro e w5 ⟨rfl, u5_a, hh, tt⟩; rw [H3.out] at hh
  replace v_f := v_f.trn tt D_a_f
  replace D_a_f : DJ (Ft p_a u5_a) (· = w.heap.size) := D_a_f.step tt (fun k hk => by subst hk; exact lq_f)
  clear h_a
  have h_a := hh
  replace bw := bw.trans (tt.bel.mono sb_a)
  replace sz := bw.size
  clear hh tt lq_f
  clear lt_a
  have lt_a : ∀ k, (Ft p_a u5_a) k → k < w5.heap.size := fun k hk => (h_a.ft hk).2
  have q_f := v_f.cells
  have l_f := v_f.lt
  (try dsimp only)
  go_wp2_with fail
  clear q_f l_f
  have lq_f := v_f.lt
  refine (putGlobal_any h_a gv gm (by omega)).mono ?_
  rintro e w6 ⟨rfl, u6_a, hh, tt⟩; rw [H4.out] at hh
  replace v_f := v_f.trn tt D_a_f
  replace D_a_f : DJ (Ft p_a u6_a) (· = w.heap.size) := D_a_f.step tt (fun k hk => by subst hk; exact lq_f)
  clear h_a
  have h_a := hh
  replace bw := bw.trans (tt.bel.mono sb_a)
  replace sz := bw.size
  clear hh tt lq_f
  clear lt_a
  have lt_a : ∀ k, (Ft p_a u6_a) k → k < w6.heap.size := fun k hk => (h_a.ft hk).2
  have q_f := v_f.cells
  have l_f := v_f.lt
  (try dsimp only)
  go_wp2_with fail
  clear q_f l_f
  have lq_f := v_f.lt
  refine (putBlock_any h_a ⟨bk, bt, bi⟩ (by omega)).mono ?_
  rintro e w7 ⟨rfl, u7_a, hh, tt⟩; rw [H5.out] at hh
  replace v_f := v_f.trn tt D_a_f
  replace D_a_f : DJ (Ft p_a u7_a) (· = w.heap.size) := D_a_f.step tt (fun k hk => by subst hk; exact lq_f)
  clear h_a
  have h_a := hh
  replace bw := bw.trans (tt.bel.mono sb_a)
  replace sz := bw.size
  clear hh tt lq_f
  clear lt_a
  have lt_a : ∀ k, (Ft p_a u7_a) k → k < w7.heap.size := fun k hk => (h_a.ft hk).2
  have q_f := v_f.cells
  have l_f := v_f.lt
  (try dsimp only)
  go_wp2_with fail
  clear q_f l_f
  refine (wdone_any h_a (by show b.length ≤ _; omega)).mono ?_
  rintro e w8 ⟨A2, c2, rfl, hA2, hb⟩
  replace v_f := v_f.below hb v_f.lt
  replace h_a := h_a.below hb
  have hd : doneB ⟨b, 0⟩ = b := rfl
  rw [hd] at hA2 ⊢
  clear hd
  replace bw := bw.trans (hb.mono bw.size)
  replace sz := bw.size
  clear hb
  clear lt_a
  have lt_a : ∀ k, (Ft p_a u7_a) k → k < w8.heap.size := fun k hk => (h_a.ft hk).2
  have q_f := v_f.cells
  have l_f := v_f.lt
  clear h_a lt_a sb_a D_a_f
  (try dsimp only)
  go_wp2_with fail
  clear q_f l_f
  have lq_f := v_f.lt
  refine (read_any w8 _ (Nat.le_refl _) A2 c2 _ b rfl hA2 hb6).mono ?_
  rintro e w9 ⟨p_r, u_r, rfl, h_r, hb, hf⟩
  replace v_f := v_f.below hb v_f.lt
  have D_r_f : DJ (Ft p_r u_r) (· = w.heap.size) := (DJ.fresh (N := w8.heap.size) (fun k hk => by subst hk; exact lq_f) hf).symm
  have sb_r : w.heap.size ≤ w8.heap.size := sz
  replace bw := bw.trans (hb.mono bw.size)
  replace sz := bw.size
  clear hb hf lq_f
  skip
  have lt_r : ∀ k, (Ft p_r u_r) k → k < w9.heap.size := fun k hk => (h_r.ft hk).2
  have q_f := v_f.cells
  have l_f := v_f.lt
  (try dsimp only)
  go_wp2_with fail
  clear q_f l_f
  have lq_f := v_f.lt
  refine (getFunc_any h_r).mono ?_
  rintro e w10 ⟨X1, e1, X2, e2, rfl, R_x1, R_x2, st⟩
  rw [HY1.out] at st R_x1 R_x2; obtain ⟨hh, tt⟩ := st; rw [HY1.out]; dsimp only at R_x1 R_x2
  replace v_f := v_f.trn tt D_r_f
  replace D_r_f : DJ (Ft p_r u_r) (· = w.heap.size) := D_r_f.step tt (fun k hk => by subst hk; exact lq_f)
  clear h_r
  have h_r := hh
  replace bw := bw.trans (tt.bel.mono sb_r)
  replace sz := bw.size
  clear hh tt lq_f
  clear lt_r
  have lt_r : ∀ k, (Ft p_r u_r) k → k < w10.heap.size := fun k hk => (h_r.ft hk).2
  have q_f := v_f.cells
  have l_f := v_f.lt
  (try dsimp only)
  go_wp2_with fail
  clear q_f l_f
  have lq_f := v_f.lt
  refine (getLim_any h_r).mono ?_
  rintro e w11 ⟨rfl, st⟩
  rw [HY2.out] at st; obtain ⟨hh, tt⟩ := st; rw [HY2.out]
  replace v_f := v_f.trn tt D_r_f
  replace D_r_f : DJ (Ft p_r u_r) (· = w.heap.size) := D_r_f.step tt (fun k hk => by subst hk; exact lq_f)
  replace R_x1 := R_x1.step tt
  replace R_x2 := R_x2.step tt
  clear h_r
  have h_r := hh
  replace bw := bw.trans (tt.bel.mono sb_r)
  replace sz := bw.size
  clear hh tt lq_f
  clear lt_r
  have lt_r : ∀ k, (Ft p_r u_r) k → k < w11.heap.size := fun k hk => (h_r.ft hk).2
  have q_f := v_f.cells
  have l_f := v_f.lt
  (try dsimp only)
  go_wp2_with fail
  clear q_f l_f
  have lq_f := v_f.lt
  refine (getTable_any h_r).mono ?_
  rintro e w12 ⟨rfl, st⟩
  rw [HY3.out] at st; obtain ⟨hh, tt⟩ := st; rw [HY3.out]
  replace v_f := v_f.trn tt D_r_f
  replace D_r_f : DJ (Ft p_r u_r) (· = w.heap.size) := D_r_f.step tt (fun k hk => by subst hk; exact lq_f)
  replace R_x1 := R_x1.step tt
  replace R_x2 := R_x2.step tt
  clear h_r
  have h_r := hh
  replace bw := bw.trans (tt.bel.mono sb_r)
  replace sz := bw.size
  clear hh tt lq_f
  clear lt_r
  have lt_r : ∀ k, (Ft p_r u_r) k → k < w12.heap.size := fun k hk => (h_r.ft hk).2
  have q_f := v_f.cells
  have l_f := v_f.lt
  have d_f_vy := v_f.lt
  have d_f_vl := v_f.lt
  have d_f_vt := v_f.lt
  (try dsimp only)
  go_wp2_with fail
  refine at_world (F := fun w' => Var w' (w.heap.size) #[.slice F1 ps.length d1, .slice F2 rs.length d2, .int .i64 lmn, .int .i64 lmx, .bool lh, .int .i64 tel, .int .i64 tmn, .int .i64 tmx, .bool th, .int .i64 gv, .bool gm, .int .i64 bk, .int .i64 bt, .int .i64 bi] 90 ∧ Var w' (w12.heap.size) #[.slice X1 ps.length e1, .slice X2 rs.length e2] 76 ∧ Var w' (w12.heap.size + 1) #[.int .i64 lmn, .int .i64 lmx, .bool lh] 52 ∧ Var w' (w12.heap.size + 2) #[.int .i64 tel, .int .i64 tmn, .int .i64 tmx, .bool th] 54 ∧ RdrAt w' w8.heap.size p_r u_r b ⟨m3, 0⟩ ∧ Lst w' p_r u_r X1 ps ∧ Lst w' p_r u_r X2 rs ∧ w12.heap.size ≤ w'.heap.size ∧ Below w.heap.size w w') ⟨(((v_f).alloc _).alloc _).alloc _, ((Var.newE _ _ _ rfl).alloc _).alloc _, (Var.newE2 _ _ _ _ rfl).alloc _, Var.newE3 _ _ _ _ _ rfl, h_r.below (by go_grown), R_x1.below (by go_grown), R_x2.below (by go_grown), by go_size, by go_grown⟩ ?_
  clear q_f l_f v_f h_r bw sz
  rintro w13 ⟨v_f, v_vy, v_vl, v_vt, h_r, R_x1, R_x2, szn, bw⟩
  have sz := bw.size
  have D_r_vy : DJ (Ft p_r u_r) (· = w12.heap.size) := DJ.fresh lt_r (N := w12.heap.size) (fun k hk => by subst hk; omega)
  have D_r_vl : DJ (Ft p_r u_r) (· = w12.heap.size + 1) := DJ.fresh lt_r (N := w12.heap.size) (fun k hk => by subst hk; omega)
  have D_r_vt : DJ (Ft p_r u_r) (· = w12.heap.size + 2) := DJ.fresh lt_r (N := w12.heap.size) (fun k hk => by subst hk; omega)
  clear lt_r
  have lt_r : ∀ k, (Ft p_r u_r) k → k < w13.heap.size := fun k hk => (h_r.ft hk).2
  clear szn
  have lq_f := v_f.lt
  have lq_vy := v_vy.lt
  have lq_vl := v_vl.lt
  have lq_vt := v_vt.lt
  refine (getGlobal_any h_r).mono ?_
  rintro e w14 ⟨rfl, st⟩
  rw [HY4.out] at st; obtain ⟨hh, tt⟩ := st; rw [HY4.out]
  replace v_f := v_f.trn tt D_r_f
  replace v_vy := v_vy.trn tt D_r_vy
  replace v_vl := v_vl.trn tt D_r_vl
  replace v_vt := v_vt.trn tt D_r_vt
  replace D_r_f : DJ (Ft p_r u_r) (· = w.heap.size) := D_r_f.step tt (fun k hk => by subst hk; exact lq_f)
  replace D_r_vy : DJ (Ft p_r u_r) (· = w12.heap.size) := D_r_vy.step tt (fun k hk => by subst hk; exact lq_vy)
  replace D_r_vl : DJ (Ft p_r u_r) (· = w12.heap.size + 1) := D_r_vl.step tt (fun k hk => by subst hk; exact lq_vl)
  replace D_r_vt : DJ (Ft p_r u_r) (· = w12.heap.size + 2) := D_r_vt.step tt (fun k hk => by subst hk; exact lq_vt)
  replace R_x1 := R_x1.step tt
  replace R_x2 := R_x2.step tt
  clear h_r
  have h_r := hh
  replace bw := bw.trans (tt.bel.mono sb_r)
  replace sz := bw.size
  clear hh tt lq_f lq_vy lq_vl lq_vt
  clear lt_r
  have lt_r : ∀ k, (Ft p_r u_r) k → k < w14.heap.size := fun k hk => (h_r.ft hk).2
  have q_f := v_f.cells
  have l_f := v_f.lt
  have q_vy := v_vy.cells
  have l_vy := v_vy.lt
  have q_vl := v_vl.cells
  have l_vl := v_vl.lt
  have q_vt := v_vt.cells
  have l_vt := v_vt.lt
  (try dsimp only)
  go_wp2_with fail
  clear q_f l_f q_vy l_vy q_vl l_vl q_vt l_vt
  have lq_f := v_f.lt
  have lq_vy := v_vy.lt
  have lq_vl := v_vl.lt
  have lq_vt := v_vt.lt
  refine (getBlock_any h_r).mono ?_
  rintro e w15 ⟨rfl, st⟩
  rw [HY5.out] at st; obtain ⟨hh, tt⟩ := st; rw [HY5.out]
  replace v_f := v_f.trn tt D_r_f
  replace v_vy := v_vy.trn tt D_r_vy
  replace v_vl := v_vl.trn tt D_r_vl
  replace v_vt := v_vt.trn tt D_r_vt
  replace D_r_f : DJ (Ft p_r u_r) (· = w.heap.size) := D_r_f.step tt (fun k hk => by subst hk; exact lq_f)
  replace D_r_vy : DJ (Ft p_r u_r) (· = w12.heap.size) := D_r_vy.step tt (fun k hk => by subst hk; exact lq_vy)
  replace D_r_vl : DJ (Ft p_r u_r) (· = w12.heap.size + 1) := D_r_vl.step tt (fun k hk => by subst hk; exact lq_vl)
  replace D_r_vt : DJ (Ft p_r u_r) (· = w12.heap.size + 2) := D_r_vt.step tt (fun k hk => by subst hk; exact lq_vt)
  replace R_x1 := R_x1.step tt
  replace R_x2 := R_x2.step tt
  clear h_r
  have h_r := hh
  replace bw := bw.trans (tt.bel.mono sb_r)
  replace sz := bw.size
  clear hh tt lq_f lq_vy lq_vl lq_vt
  clear lt_r
  have lt_r : ∀ k, (Ft p_r u_r) k → k < w15.heap.size := fun k hk => (h_r.ft hk).2
  have q_f := v_f.cells
  have l_f := v_f.lt
  have q_vy := v_vy.cells
  have l_vy := v_vy.lt
  have q_vl := v_vl.cells
  have l_vl := v_vl.lt
  have q_vt := v_vt.cells
  have l_vt := v_vt.lt
  have d_f_vg := v_f.lt
  have d_vy_vg := v_vy.lt
  have d_vl_vg := v_vl.lt
  have d_vt_vg := v_vt.lt
  have d_f_vk := v_f.lt
  have d_vy_vk := v_vy.lt
  have d_vl_vk := v_vl.lt
  have d_vt_vk := v_vt.lt
  (try dsimp only)
  go_wp2_with fail
  refine at_world (F := fun w' => Var w' (w.heap.size) #[.slice F1 ps.length d1, .slice F2 rs.length d2, .int .i64 lmn, .int .i64 lmx, .bool lh, .int .i64 tel, .int .i64 tmn, .int .i64 tmx, .bool th, .int .i64 gv, .bool gm, .int .i64 bk, .int .i64 bt, .int .i64 bi] 90 ∧ Var w' (w12.heap.size) #[.slice X1 ps.length e1, .slice X2 rs.length e2] 76 ∧ Var w' (w12.heap.size + 1) #[.int .i64 lmn, .int .i64 lmx, .bool lh] 52 ∧ Var w' (w12.heap.size + 2) #[.int .i64 tel, .int .i64 tmn, .int .i64 tmx, .bool th] 54 ∧ Var w' (w15.heap.size) #[.int .i64 gv, .bool gm] 67 ∧ Var w' (w15.heap.size + 1) #[.int .i64 bk, .int .i64 bt, .int .i64 bi] 25 ∧ RdrAt w' w8.heap.size p_r u_r b ⟨b.length, 0⟩ ∧ Lst w' p_r u_r X1 ps ∧ Lst w' p_r u_r X2 rs ∧ w15.heap.size ≤ w'.heap.size ∧ Below w.heap.size w w') ⟨((v_f).alloc _).alloc _, ((v_vy).alloc _).alloc _, ((v_vl).alloc _).alloc _, ((v_vt).alloc _).alloc _, (Var.newE _ _ _ rfl).alloc _, Var.newE2 _ _ _ _ rfl, h_r.below (by go_grown), R_x1.below (by go_grown), R_x2.below (by go_grown), by go_size, by go_grown⟩ ?_
  clear q_f l_f v_f q_vy l_vy v_vy q_vl l_vl v_vl q_vt l_vt v_vt h_r bw sz
  rintro w16 ⟨v_f, v_vy, v_vl, v_vt, v_vg, v_vk, h_r, R_x1, R_x2, szn, bw⟩
  have sz := bw.size
  have D_r_vg : DJ (Ft p_r u_r) (· = w15.heap.size) := DJ.fresh lt_r (N := w15.heap.size) (fun k hk => by subst hk; omega)
  have D_r_vk : DJ (Ft p_r u_r) (· = w15.heap.size + 1) := DJ.fresh lt_r (N := w15.heap.size) (fun k hk => by subst hk; omega)
  clear lt_r
  have lt_r : ∀ k, (Ft p_r u_r) k → k < w16.heap.size := fun k hk => (h_r.ft hk).2
  clear szn
  refine (refSame_len X1 X2 F1 F2 e1 e2 d1 d2 _ _ 0 0 ps rs _ rfl rfl R_x1.rd R_x2.rd ((HP.out.below bw).more bw.size) ((HQ.out.below bw).more bw.size) (by omega) (by omega)).mono ?_
  rintro e w17 ⟨rfl, hb⟩
  replace v_f := v_f.below hb v_f.lt
  replace v_vy := v_vy.below hb v_vy.lt
  replace v_vl := v_vl.below hb v_vl.lt
  replace v_vt := v_vt.below hb v_vt.lt
  replace v_vg := v_vg.below hb v_vg.lt
  replace v_vk := v_vk.below hb v_vk.lt
  replace h_r := h_r.below hb
  replace R_x1 := R_x1.below hb
  replace R_x2 := R_x2.below hb
  replace bw := bw.trans (hb.mono bw.size)
  replace sz := bw.size
  clear hb
  clear lt_r
  have lt_r : ∀ k, (Ft p_r u_r) k → k < w17.heap.size := fun k hk => (h_r.ft hk).2
  have q_f := v_f.cells
  have l_f := v_f.lt
  have q_vy := v_vy.cells
  have l_vy := v_vy.lt
  have q_vl := v_vl.cells
  have l_vl := v_vl.lt
  have q_vt := v_vt.cells
  have l_vt := v_vt.lt
  have q_vg := v_vg.cells
  have l_vg := v_vg.lt
  have q_vk := v_vk.cells
  have l_vk := v_vk.lt
  (try dsimp only)
  go_wp2_with fail
  clear q_f l_f q_vy l_vy q_vl l_vl q_vt l_vt q_vg l_vg q_vk l_vk
  refine (end_yes h_r).mono ?_
  rintro e w18 ⟨rfl, hb⟩
  replace v_f := v_f.below hb v_f.lt
  replace v_vy := v_vy.below hb v_vy.lt
  replace v_vl := v_vl.below hb v_vl.lt
  replace v_vt := v_vt.below hb v_vt.lt
  replace v_vg := v_vg.below hb v_vg.lt
  replace v_vk := v_vk.below hb v_vk.lt
  replace h_r := h_r.below hb
  replace R_x1 := R_x1.below hb
  replace R_x2 := R_x2.below hb
  replace bw := bw.trans (hb.mono bw.size)
  replace sz := bw.size
  clear hb
  clear lt_r
  have lt_r : ∀ k, (Ft p_r u_r) k → k < w18.heap.size := fun k hk => (h_r.ft hk).2
  have q_f := v_f.cells
  have l_f := v_f.lt
  have q_vy := v_vy.cells
  have l_vy := v_vy.lt
  have q_vl := v_vl.cells
  have l_vl := v_vl.lt
  have q_vt := v_vt.cells
  have l_vt := v_vt.lt
  have q_vg := v_vg.cells
  have l_vg := v_vg.lt
  have q_vk := v_vk.cells
  have l_vk := v_vk.lt
  (try dsimp only)
  go_wp2_with fail
  clear q_f l_f q_vy l_vy q_vl l_vl q_vt l_vt q_vg l_vg q_vk l_vk
  refine (alive_any _).mono ?_
  rintro e w19 ⟨rfl, hb⟩
  replace v_f := v_f.below hb v_f.lt
  replace v_vy := v_vy.below hb v_vy.lt
  replace v_vl := v_vl.below hb v_vl.lt
  replace v_vt := v_vt.below hb v_vt.lt
  replace v_vg := v_vg.below hb v_vg.lt
  replace v_vk := v_vk.below hb v_vk.lt
  replace h_r := h_r.below hb
  replace R_x1 := R_x1.below hb
  replace R_x2 := R_x2.below hb
  replace bw := bw.trans (hb.mono bw.size)
  replace sz := bw.size
  clear hb
  clear lt_r
  have lt_r : ∀ k, (Ft p_r u_r) k → k < w19.heap.size := fun k hk => (h_r.ft hk).2
  have q_f := v_f.cells
  have l_f := v_f.lt
  have q_vy := v_vy.cells
  have l_vy := v_vy.lt
  have q_vl := v_vl.cells
  have l_vl := v_vl.lt
  have q_vt := v_vt.cells
  have l_vt := v_vt.lt
  have q_vg := v_vg.cells
  have l_vg := v_vg.lt
  have q_vk := v_vk.cells
  have l_vk := v_vk.lt
  go_wp2
  go_ret
  exact ⟨rfl, bw⟩
end Go.Proofs.Ytagcildoebicnaa
