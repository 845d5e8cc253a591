/-
  The reference of layer 10: limits and table types are read.
-/
import Derived.Test.YtagcildoebicnaaRefBt
set_option linter.unusedVariables false
set_option linter.unusedSimpArgs false
namespace Go.Proofs.Ytagcildoebicnaa
open Go.RowKit

namespace Oct
theorem getLim_at {b : List UInt8} {s : St} (h : s.at_ ≤ b.length) : (getLim b s).1.at_ ≤ b.length := by
  have h1 := byte_at h
  have h2 : (must (byte b s).1 (decide ((byte b s).2 ≤ 1)) 4).at_ ≤ b.length := by rw [must_at]; exact h1
  have h3 := u32_at h2
  have h4 := u32_at h3
  unfold getLim
  dsimp only
  split
  · split
    · dsimp only; rw [must_at]; exact h4
    · dsimp only; rw [must_at]; exact h4
  · split <;> exact h3
end Oct
def RLim (A : Option Addr) (n c : Nat) (x : Oct.St × Oct.Lim) (w : World) (e : Ending) (w' : World) : Prop :=
  e = .returned (.tuple #[.agg #[.slice A n c, .int .i64 (x.1.at_ : Int), .int .i64 x.1.err], .agg #[.int .i64 x.2.mn, .int .i64 x.2.mx, .bool x.2.has]]) ∧ Below w.heap.size w w'
def RTab (A : Option Addr) (n c : Nat) (x : Oct.St × Int × Oct.Lim) (w : World) (e : Ending) (w' : World) : Prop :=
  e = .returned (.tuple #[.agg #[.slice A n c, .int .i64 (x.1.at_ : Int), .int .i64 x.1.err], .agg #[.int .i64 x.2.1, .int .i64 x.2.2.mn, .int .i64 x.2.2.mx, .bool x.2.2.has]]) ∧ Below w.heap.size w w'
set_option maxHeartbeats 8000000 in
set_option maxRecDepth 100000 in
theorem refGetLim_any (A : Option Addr) (n c : Nat) (b : List UInt8) (s : Oct.St) (w : World) (hn : b.length = n) (hr : RdB w w.heap.size A b) (hle : s.at_ ≤ n) (hc : n ≤ c) (hb6 : n ≤ 1000000) :
    Calls Try.prog 29 #[.agg #[.slice A n c, .int .i64 (s.at_ : Int), .int .i64 s.err]] w (RLim A n c (Oct.getLim b s) w) := by
  have HC := Lib.hid (fun w hr => refByte2_any A n c b s w hn hr hle hc hb6)
  have HR := Lib.hid hr
  have h1t := Oct.byte_at (b := b) (s := s) (by omega)
  unfold Oct.getLim
  dsimp only
  obtain ⟨⟨s1, x⟩, hy⟩ : ∃ y, Oct.byte b s = y := ⟨_, rfl⟩
  rw [hy] at HC h1t ⊢
  dsimp only at h1t ⊢
  clear hy hr
  obtain ⟨s1', hs1'⟩ : ∃ s1', Oct.must s1 (decide (x ≤ 1)) 4 = s1' := ⟨_, rfl⟩
  have h2t : s1'.at_ ≤ b.length := by rw [← hs1', Oct.must_at]; exact h1t
  have h3t := Oct.u32_at h2t
  rw [hs1']
  have HN := Lib.hid (fun w hr => refU32_any A n c b s1' w hn hr (by omega) hc hb6)
  obtain ⟨⟨s2, m1⟩, hy⟩ : ∃ y, Oct.u32 b s1' = y := ⟨_, rfl⟩
  rw [hy] at HN h3t ⊢
  dsimp only at h3t ⊢
  clear hy
  have HM := Lib.hid (fun w hr => refU32_any A n c b s2 w hn hr (by omega) hc hb6)
  obtain ⟨⟨s3, m2⟩, hy⟩ : ∃ y, Oct.u32 b s2 = y := ⟨_, rfl⟩
  rw [hy] at HM ⊢
  dsimp only
  have HF4 := Lib.hid (fun w => refFail_any A n c s1 4 w)
  have HF20 := Lib.hid (fun w => refFail_any A n c s3 20 w)
  have HF : (s1.err = 0 ∧ x ≤ 1 ∧ s1' = s1) ∨ (s1.err = 0 ∧ 1 < x ∧ s1' = s1.fail 4) ∨ (¬ s1.err = 0 ∧ s1' = s1) := by
    by_cases h1 : s1.err = 0
    · by_cases h2 : x ≤ 1
      · exact .inl ⟨h1, h2, by rw [← hs1', must_no (by simp [h2])]⟩
      · refine .inr (.inl ⟨h1, by omega, ?_⟩)
        have hx2 : decide (x ≤ 1) = false := by simp; omega
        rw [← hs1', hx2, must_yes h1]
    · exact .inr (.inr ⟨h1, by rw [← hs1', must_no (fun hh => h1 hh.1)]⟩)
  clear hs1' h1t h2t h3t hy
  rcases HF with ⟨h1, h2, hs⟩ | ⟨h1, h2, hs⟩ | ⟨h1, hs⟩
  · have g2 : (s1.err == 0) = true := by simpa using h1
    have g3 : decide (1 < x) = false := by simp; omega
    have HS1 : Hid (s1 = s1') := hs.symm
    clear hs h1
    clear h2
    by_cases hx1 : x = 1
    · rw [if_pos hx1]
      have g5 : (x == 1) = true := by simpa using hx1
      clear hx1
      by_cases h3 : s3.err = 0
      · have k1 : (s3.err == 0) = true := by simpa using h3
        have k2 : (s3.err != 0) = false := by simpa using h3
        by_cases hnm : m1 ≤ m2
        · have k3 : decide (m2 < m1) = false := by simp; omega
          rw [must_no (by simp [hnm]), if_pos h3]
          clear h3 hnm
          go_enter Try.func29, Try.ntmps29
          go_wp2_with fail
          refine at_world (F := fun w' => Var w' (w.heap.size) #[.slice A n c, .int .i64 (s.at_ : Int), .int .i64 s.err] 35 ∧ Var w' (w.heap.size + 1) #[.slice none 0 0, .int .i64 0, .int .i64 0] 35 ∧ Var w' (w.heap.size + 2) #[.int .i64 0, .int .i64 0, .bool false] 52 ∧ Below w.heap.size w w') ⟨((Var.new w _ _).alloc _).alloc _, (Var.new2 w _ _ _).alloc _, Var.new3 w _ _ _ _, by go_grown⟩ ?_
          rintro w1 ⟨v_r, v_o, v_p, bw⟩
          have sz := bw.size
          refine (HC.out _ ((HR.out.below bw).more bw.size)).mono ?_
          rintro e w2 ⟨rfl, hb⟩
          replace v_r := v_r.below hb v_r.lt
          replace v_o := v_o.below hb v_o.lt
          replace v_p := v_p.below hb v_p.lt
          replace bw := bw.trans (hb.mono bw.size)
          replace sz := bw.size
          clear hb
          have q_r := v_r.cells
          have z_r := v_r.froz
          have l_r := v_r.lt
          have q_o := v_o.cells
          have z_o := v_o.froz
          have l_o := v_o.lt
          have q_p := v_p.cells
          have z_p := v_p.froz
          have l_p := v_p.lt
          have d_r_t := v_r.lt
          have d_o_t := v_o.lt
          have d_p_t := v_p.lt
          have d_r_l := v_r.lt
          have d_o_l := v_o.lt
          have d_p_l := v_p.lt
          go_wp2_with fail
          refine at_world (F := fun w' => Var w' (w.heap.size) #[.slice A n c, .int .i64 (s.at_ : Int), .int .i64 s.err] 35 ∧ Var w' (w.heap.size + 1) #[.slice none 0 0, .int .i64 0, .int .i64 0] 35 ∧ Var w' (w.heap.size + 2) #[.int .i64 0, .int .i64 0, .bool false] 52 ∧ Var w' (w2.heap.size) #[.slice A n c, .int .i64 (s1.at_ : Int), .int .i64 s1.err] 35 ∧ Var w' (w2.heap.size + 1) #[.int .i64 0, .int .i64 0, .bool true] 52 ∧ Below w.heap.size w w') ⟨((v_r).alloc _).alloc _, ((v_o).alloc _).alloc _, ((v_p).alloc _).alloc _, (Var.newE _ _ _ (by simp)).alloc _, Var.newE2 _ _ _ _ (by simp), by go_grown⟩ ?_
          clear q_r z_r l_r q_o z_o l_o q_p z_p l_p v_r v_o v_p bw sz
          rintro w3 ⟨v_r, v_o, v_p, v_t, v_l, bw⟩
          have sz := bw.size
          rw [HS1.out]
          refine (HN.out _ ((HR.out.below bw).more bw.size)).mono ?_
          rintro e w4 ⟨rfl, hb⟩
          replace v_r := v_r.below hb v_r.lt
          replace v_o := v_o.below hb v_o.lt
          replace v_p := v_p.below hb v_p.lt
          replace v_t := v_t.below hb v_t.lt
          replace v_l := v_l.below hb v_l.lt
          replace bw := bw.trans (hb.mono bw.size)
          replace sz := bw.size
          clear hb
          have q_r := v_r.cells
          have z_r := v_r.froz
          have l_r := v_r.lt
          have q_o := v_o.cells
          have z_o := v_o.froz
          have l_o := v_o.lt
          have q_p := v_p.cells
          have z_p := v_p.froz
          have l_p := v_p.lt
          have q_t := v_t.cells
          have z_t := v_t.froz
          have l_t := v_t.lt
          have q_l := v_l.cells
          have z_l := v_l.froz
          have l_l := v_l.lt
          go_wp2_with fail
          refine at_world (F := fun w' => Var w' (w.heap.size) #[.slice A n c, .int .i64 (s.at_ : Int), .int .i64 s.err] 35 ∧ Var w' (w.heap.size + 1) #[.slice none 0 0, .int .i64 0, .int .i64 0] 35 ∧ Var w' (w.heap.size + 2) #[.int .i64 0, .int .i64 0, .bool false] 52 ∧ Var w' (w2.heap.size) #[.slice A n c, .int .i64 (s2.at_ : Int), .int .i64 s2.err] 35 ∧ Var w' (w2.heap.size + 1) #[.int .i64 m1, .int .i64 0, .bool true] 52 ∧ Below w.heap.size w w') ⟨((((v_r).other (by omega) 0 _).other (by omega) 1 _).other (by omega) 2 _).other (by omega) 0 _, ((((v_o).other (by omega) 0 _).other (by omega) 1 _).other (by omega) 2 _).other (by omega) 0 _, ((((v_p).other (by omega) 0 _).other (by omega) 1 _).other (by omega) 2 _).other (by omega) 0 _, ((((v_t).set 0 _).set 1 _).set 2 _).other (by omega) 0 _, ((((v_l).other (by omega) 0 _).other (by omega) 1 _).other (by omega) 2 _).set 0 _, by go_grown⟩ ?_
          clear q_r z_r l_r q_o z_o l_o q_p z_p l_p q_t z_t l_t q_l z_l l_l v_r v_o v_p v_t v_l bw sz
          rintro w5 ⟨v_r, v_o, v_p, v_t, v_l, bw⟩
          have sz := bw.size
          refine (HM.out _ ((HR.out.below bw).more bw.size)).mono ?_
          rintro e w6 ⟨rfl, hb⟩
          replace v_r := v_r.below hb v_r.lt
          replace v_o := v_o.below hb v_o.lt
          replace v_p := v_p.below hb v_p.lt
          replace v_t := v_t.below hb v_t.lt
          replace v_l := v_l.below hb v_l.lt
          replace bw := bw.trans (hb.mono bw.size)
          replace sz := bw.size
          clear hb
          have q_r := v_r.cells
          have z_r := v_r.froz
          have l_r := v_r.lt
          have q_o := v_o.cells
          have z_o := v_o.froz
          have l_o := v_o.lt
          have q_p := v_p.cells
          have z_p := v_p.froz
          have l_p := v_p.lt
          have q_t := v_t.cells
          have z_t := v_t.froz
          have l_t := v_t.lt
          have q_l := v_l.cells
          have z_l := v_l.froz
          have l_l := v_l.lt
          have d_r_q := v_r.lt
          have d_o_q := v_o.lt
          have d_p_q := v_p.lt
          have d_t_q := v_t.lt
          have d_l_q := v_l.lt
          (try dsimp only)
          repeat (first | go_values | go_skip | go_guarded | go_step | go_upon)
          go_region
          all_goals
            (try dsimp only)
            repeat (first | go_values | go_skip | go_guarded | go_step | go_upon)
            refine bodyPost_ret (v := .tuple #[.agg #[.slice A n c, .int .i64 (s3.at_ : Int), .int .i64 s3.err], .agg #[.int .i64 m1, .int .i64 m2, .bool true]]) (by simp [results, Try.results29, go_sem, q_r, l_r, q_o, l_o, q_p, l_p, q_t, l_t, q_l, l_l]) rfl ?_
            exact ⟨rfl, by go_grown⟩
        · have k3 : decide (m2 < m1) = true := by simp; omega
          have k4 : ((s3.fail 20).err != 0) = true := by rw [fail_err h3]; decide
          have hnm2 : decide (m1 ≤ m2) = false := by simp; omega
          rw [hnm2, must_yes h3, if_neg (by rw [fail_err h3]; decide)]
          clear h3 hnm hnm2 k2
          go_enter Try.func29, Try.ntmps29
          go_wp2_with fail
          refine at_world (F := fun w' => Var w' (w.heap.size) #[.slice A n c, .int .i64 (s.at_ : Int), .int .i64 s.err] 35 ∧ Var w' (w.heap.size + 1) #[.slice none 0 0, .int .i64 0, .int .i64 0] 35 ∧ Var w' (w.heap.size + 2) #[.int .i64 0, .int .i64 0, .bool false] 52 ∧ Below w.heap.size w w') ⟨((Var.new w _ _).alloc _).alloc _, (Var.new2 w _ _ _).alloc _, Var.new3 w _ _ _ _, by go_grown⟩ ?_
          rintro w1 ⟨v_r, v_o, v_p, bw⟩
          have sz := bw.size
          refine (HC.out _ ((HR.out.below bw).more bw.size)).mono ?_
          rintro e w2 ⟨rfl, hb⟩
          replace v_r := v_r.below hb v_r.lt
          replace v_o := v_o.below hb v_o.lt
          replace v_p := v_p.below hb v_p.lt
          replace bw := bw.trans (hb.mono bw.size)
          replace sz := bw.size
          clear hb
          have q_r := v_r.cells
          have z_r := v_r.froz
          have l_r := v_r.lt
          have q_o := v_o.cells
          have z_o := v_o.froz
          have l_o := v_o.lt
          have q_p := v_p.cells
          have z_p := v_p.froz
          have l_p := v_p.lt
          have d_r_t := v_r.lt
          have d_o_t := v_o.lt
          have d_p_t := v_p.lt
          have d_r_l := v_r.lt
          have d_o_l := v_o.lt
          have d_p_l := v_p.lt
          go_wp2_with fail
          refine at_world (F := fun w' => Var w' (w.heap.size) #[.slice A n c, .int .i64 (s.at_ : Int), .int .i64 s.err] 35 ∧ Var w' (w.heap.size + 1) #[.slice none 0 0, .int .i64 0, .int .i64 0] 35 ∧ Var w' (w.heap.size + 2) #[.int .i64 0, .int .i64 0, .bool false] 52 ∧ Var w' (w2.heap.size) #[.slice A n c, .int .i64 (s1.at_ : Int), .int .i64 s1.err] 35 ∧ Var w' (w2.heap.size + 1) #[.int .i64 0, .int .i64 0, .bool true] 52 ∧ Below w.heap.size w w') ⟨((v_r).alloc _).alloc _, ((v_o).alloc _).alloc _, ((v_p).alloc _).alloc _, (Var.newE _ _ _ (by simp)).alloc _, Var.newE2 _ _ _ _ (by simp), by go_grown⟩ ?_
          clear q_r z_r l_r q_o z_o l_o q_p z_p l_p v_r v_o v_p bw sz
          rintro w3 ⟨v_r, v_o, v_p, v_t, v_l, bw⟩
          have sz := bw.size
          rw [HS1.out]
          refine (HN.out _ ((HR.out.below bw).more bw.size)).mono ?_
          rintro e w4 ⟨rfl, hb⟩
          replace v_r := v_r.below hb v_r.lt
          replace v_o := v_o.below hb v_o.lt
          replace v_p := v_p.below hb v_p.lt
          replace v_t := v_t.below hb v_t.lt
          replace v_l := v_l.below hb v_l.lt
          replace bw := bw.trans (hb.mono bw.size)
          replace sz := bw.size
          clear hb
          have q_r := v_r.cells
          have z_r := v_r.froz
          have l_r := v_r.lt
          have q_o := v_o.cells
          have z_o := v_o.froz
          have l_o := v_o.lt
          have q_p := v_p.cells
          have z_p := v_p.froz
          have l_p := v_p.lt
          have q_t := v_t.cells
          have z_t := v_t.froz
          have l_t := v_t.lt
          have q_l := v_l.cells
          have z_l := v_l.froz
          have l_l := v_l.lt
          go_wp2_with fail
          refine at_world (F := fun w' => Var w' (w.heap.size) #[.slice A n c, .int .i64 (s.at_ : Int), .int .i64 s.err] 35 ∧ Var w' (w.heap.size + 1) #[.slice none 0 0, .int .i64 0, .int .i64 0] 35 ∧ Var w' (w.heap.size + 2) #[.int .i64 0, .int .i64 0, .bool false] 52 ∧ Var w' (w2.heap.size) #[.slice A n c, .int .i64 (s2.at_ : Int), .int .i64 s2.err] 35 ∧ Var w' (w2.heap.size + 1) #[.int .i64 m1, .int .i64 0, .bool true] 52 ∧ Below w.heap.size w w') ⟨((((v_r).other (by omega) 0 _).other (by omega) 1 _).other (by omega) 2 _).other (by omega) 0 _, ((((v_o).other (by omega) 0 _).other (by omega) 1 _).other (by omega) 2 _).other (by omega) 0 _, ((((v_p).other (by omega) 0 _).other (by omega) 1 _).other (by omega) 2 _).other (by omega) 0 _, ((((v_t).set 0 _).set 1 _).set 2 _).other (by omega) 0 _, ((((v_l).other (by omega) 0 _).other (by omega) 1 _).other (by omega) 2 _).set 0 _, by go_grown⟩ ?_
          clear q_r z_r l_r q_o z_o l_o q_p z_p l_p q_t z_t l_t q_l z_l l_l v_r v_o v_p v_t v_l bw sz
          rintro w5 ⟨v_r, v_o, v_p, v_t, v_l, bw⟩
          have sz := bw.size
          refine (HM.out _ ((HR.out.below bw).more bw.size)).mono ?_
          rintro e w6 ⟨rfl, hb⟩
          replace v_r := v_r.below hb v_r.lt
          replace v_o := v_o.below hb v_o.lt
          replace v_p := v_p.below hb v_p.lt
          replace v_t := v_t.below hb v_t.lt
          replace v_l := v_l.below hb v_l.lt
          replace bw := bw.trans (hb.mono bw.size)
          replace sz := bw.size
          clear hb
          have q_r := v_r.cells
          have z_r := v_r.froz
          have l_r := v_r.lt
          have q_o := v_o.cells
          have z_o := v_o.froz
          have l_o := v_o.lt
          have q_p := v_p.cells
          have z_p := v_p.froz
          have l_p := v_p.lt
          have q_t := v_t.cells
          have z_t := v_t.froz
          have l_t := v_t.lt
          have q_l := v_l.cells
          have z_l := v_l.froz
          have l_l := v_l.lt
          have d_r_q := v_r.lt
          have d_o_q := v_o.lt
          have d_p_q := v_p.lt
          have d_t_q := v_t.lt
          have d_l_q := v_l.lt
          go_wp2_with fail
          refine at_world (F := fun w' => Var w' (w.heap.size) #[.slice A n c, .int .i64 (s.at_ : Int), .int .i64 s.err] 35 ∧ Var w' (w.heap.size + 1) #[.slice none 0 0, .int .i64 0, .int .i64 0] 35 ∧ Var w' (w.heap.size + 2) #[.int .i64 0, .int .i64 0, .bool false] 52 ∧ Var w' (w2.heap.size) #[.slice A n c, .int .i64 (s3.at_ : Int), .int .i64 s3.err] 35 ∧ Var w' (w2.heap.size + 1) #[.int .i64 m1, .int .i64 m2, .bool true] 52 ∧ Var w' (w6.heap.size) #[.slice A n c, .int .i64 (s3.at_ : Int), .int .i64 s3.err] 35 ∧ Below w.heap.size w w') ⟨(((((v_r).other (by omega) 0 _).other (by omega) 1 _).other (by omega) 2 _).other (by omega) 1 _).alloc _, (((((v_o).other (by omega) 0 _).other (by omega) 1 _).other (by omega) 2 _).other (by omega) 1 _).alloc _, (((((v_p).other (by omega) 0 _).other (by omega) 1 _).other (by omega) 2 _).other (by omega) 1 _).alloc _, (((((v_t).set 0 _).set 1 _).set 2 _).other (by omega) 1 _).alloc _, (((((v_l).other (by omega) 0 _).other (by omega) 1 _).other (by omega) 2 _).set 1 _).alloc _, Var.newE _ _ _ (by simp), by go_grown⟩ ?_
          clear q_r z_r l_r q_o z_o l_o q_p z_p l_p q_t z_t l_t q_l z_l l_l v_r v_o v_p v_t v_l bw sz
          rintro w7 ⟨v_r, v_o, v_p, v_t, v_l, v_q, bw⟩
          have sz := bw.size
          refine (HF20.out _).mono ?_
          rintro e w8 ⟨rfl, hb⟩
          replace v_r := v_r.below hb v_r.lt
          replace v_o := v_o.below hb v_o.lt
          replace v_p := v_p.below hb v_p.lt
          replace v_t := v_t.below hb v_t.lt
          replace v_l := v_l.below hb v_l.lt
          replace v_q := v_q.below hb v_q.lt
          replace bw := bw.trans (hb.mono bw.size)
          replace sz := bw.size
          clear hb
          have q_r := v_r.cells
          have z_r := v_r.froz
          have l_r := v_r.lt
          have q_o := v_o.cells
          have z_o := v_o.froz
          have l_o := v_o.lt
          have q_p := v_p.cells
          have z_p := v_p.froz
          have l_p := v_p.lt
          have q_t := v_t.cells
          have z_t := v_t.froz
          have l_t := v_t.lt
          have q_l := v_l.cells
          have z_l := v_l.froz
          have l_l := v_l.lt
          have q_q := v_q.cells
          have z_q := v_q.froz
          have l_q := v_q.lt
          (try dsimp only)
          repeat (first | go_values | go_skip | go_guarded | go_step | go_upon)
          refine bodyPost_ret (v := .tuple #[.agg #[.slice A n c, .int .i64 ((s3.fail 20).at_ : Int), .int .i64 (s3.fail 20).err], .agg #[.int .i64 0, .int .i64 0, .bool false]]) (by simp [results, Try.results29, go_sem, q_r, l_r, q_o, l_o, q_p, l_p, q_t, l_t, q_l, l_l, q_q, l_q]) rfl ?_
          exact ⟨rfl, by go_grown⟩
      · have k1 : (s3.err == 0) = false := by simpa using h3
        have k2 : (s3.err != 0) = true := by simpa using h3
        rw [must_no (fun hh => h3 hh.1), if_neg h3]
        clear h3
        go_enter Try.func29, Try.ntmps29
        go_wp2_with fail
        refine at_world (F := fun w' => Var w' (w.heap.size) #[.slice A n c, .int .i64 (s.at_ : Int), .int .i64 s.err] 35 ∧ Var w' (w.heap.size + 1) #[.slice none 0 0, .int .i64 0, .int .i64 0] 35 ∧ Var w' (w.heap.size + 2) #[.int .i64 0, .int .i64 0, .bool false] 52 ∧ Below w.heap.size w w') ⟨((Var.new w _ _).alloc _).alloc _, (Var.new2 w _ _ _).alloc _, Var.new3 w _ _ _ _, by go_grown⟩ ?_
        rintro w1 ⟨v_r, v_o, v_p, bw⟩
        have sz := bw.size
        refine (HC.out _ ((HR.out.below bw).more bw.size)).mono ?_
        rintro e w2 ⟨rfl, hb⟩
        replace v_r := v_r.below hb v_r.lt
        replace v_o := v_o.below hb v_o.lt
        replace v_p := v_p.below hb v_p.lt
        replace bw := bw.trans (hb.mono bw.size)
        replace sz := bw.size
        clear hb
        have q_r := v_r.cells
        have z_r := v_r.froz
        have l_r := v_r.lt
        have q_o := v_o.cells
        have z_o := v_o.froz
        have l_o := v_o.lt
        have q_p := v_p.cells
        have z_p := v_p.froz
        have l_p := v_p.lt
        have d_r_t := v_r.lt
        have d_o_t := v_o.lt
        have d_p_t := v_p.lt
        have d_r_l := v_r.lt
        have d_o_l := v_o.lt
        have d_p_l := v_p.lt
        go_wp2_with fail
        refine at_world (F := fun w' => Var w' (w.heap.size) #[.slice A n c, .int .i64 (s.at_ : Int), .int .i64 s.err] 35 ∧ Var w' (w.heap.size + 1) #[.slice none 0 0, .int .i64 0, .int .i64 0] 35 ∧ Var w' (w.heap.size + 2) #[.int .i64 0, .int .i64 0, .bool false] 52 ∧ Var w' (w2.heap.size) #[.slice A n c, .int .i64 (s1.at_ : Int), .int .i64 s1.err] 35 ∧ Var w' (w2.heap.size + 1) #[.int .i64 0, .int .i64 0, .bool true] 52 ∧ Below w.heap.size w w') ⟨((v_r).alloc _).alloc _, ((v_o).alloc _).alloc _, ((v_p).alloc _).alloc _, (Var.newE _ _ _ (by simp)).alloc _, Var.newE2 _ _ _ _ (by simp), by go_grown⟩ ?_
        clear q_r z_r l_r q_o z_o l_o q_p z_p l_p v_r v_o v_p bw sz
        rintro w3 ⟨v_r, v_o, v_p, v_t, v_l, bw⟩
        have sz := bw.size
        rw [HS1.out]
        refine (HN.out _ ((HR.out.below bw).more bw.size)).mono ?_
        rintro e w4 ⟨rfl, hb⟩
        replace v_r := v_r.below hb v_r.lt
        replace v_o := v_o.below hb v_o.lt
        replace v_p := v_p.below hb v_p.lt
        replace v_t := v_t.below hb v_t.lt
        replace v_l := v_l.below hb v_l.lt
        replace bw := bw.trans (hb.mono bw.size)
        replace sz := bw.size
        clear hb
        have q_r := v_r.cells
        have z_r := v_r.froz
        have l_r := v_r.lt
        have q_o := v_o.cells
        have z_o := v_o.froz
        have l_o := v_o.lt
        have q_p := v_p.cells
        have z_p := v_p.froz
        have l_p := v_p.lt
        have q_t := v_t.cells
        have z_t := v_t.froz
        have l_t := v_t.lt
        have q_l := v_l.cells
        have z_l := v_l.froz
        have l_l := v_l.lt
        go_wp2_with fail
        refine at_world (F := fun w' => Var w' (w.heap.size) #[.slice A n c, .int .i64 (s.at_ : Int), .int .i64 s.err] 35 ∧ Var w' (w.heap.size + 1) #[.slice none 0 0, .int .i64 0, .int .i64 0] 35 ∧ Var w' (w.heap.size + 2) #[.int .i64 0, .int .i64 0, .bool false] 52 ∧ Var w' (w2.heap.size) #[.slice A n c, .int .i64 (s2.at_ : Int), .int .i64 s2.err] 35 ∧ Var w' (w2.heap.size + 1) #[.int .i64 m1, .int .i64 0, .bool true] 52 ∧ Below w.heap.size w w') ⟨((((v_r).other (by omega) 0 _).other (by omega) 1 _).other (by omega) 2 _).other (by omega) 0 _, ((((v_o).other (by omega) 0 _).other (by omega) 1 _).other (by omega) 2 _).other (by omega) 0 _, ((((v_p).other (by omega) 0 _).other (by omega) 1 _).other (by omega) 2 _).other (by omega) 0 _, ((((v_t).set 0 _).set 1 _).set 2 _).other (by omega) 0 _, ((((v_l).other (by omega) 0 _).other (by omega) 1 _).other (by omega) 2 _).set 0 _, by go_grown⟩ ?_
        clear q_r z_r l_r q_o z_o l_o q_p z_p l_p q_t z_t l_t q_l z_l l_l v_r v_o v_p v_t v_l bw sz
        rintro w5 ⟨v_r, v_o, v_p, v_t, v_l, bw⟩
        have sz := bw.size
        refine (HM.out _ ((HR.out.below bw).more bw.size)).mono ?_
        rintro e w6 ⟨rfl, hb⟩
        replace v_r := v_r.below hb v_r.lt
        replace v_o := v_o.below hb v_o.lt
        replace v_p := v_p.below hb v_p.lt
        replace v_t := v_t.below hb v_t.lt
        replace v_l := v_l.below hb v_l.lt
        replace bw := bw.trans (hb.mono bw.size)
        replace sz := bw.size
        clear hb
        have q_r := v_r.cells
        have z_r := v_r.froz
        have l_r := v_r.lt
        have q_o := v_o.cells
        have z_o := v_o.froz
        have l_o := v_o.lt
        have q_p := v_p.cells
        have z_p := v_p.froz
        have l_p := v_p.lt
        have q_t := v_t.cells
        have z_t := v_t.froz
        have l_t := v_t.lt
        have q_l := v_l.cells
        have z_l := v_l.froz
        have l_l := v_l.lt
        have d_r_q := v_r.lt
        have d_o_q := v_o.lt
        have d_p_q := v_p.lt
        have d_t_q := v_t.lt
        have d_l_q := v_l.lt
        (try dsimp only)
        repeat (first | go_values | go_skip | go_guarded | go_step | go_upon)
        refine bodyPost_ret (v := .tuple #[.agg #[.slice A n c, .int .i64 (s3.at_ : Int), .int .i64 s3.err], .agg #[.int .i64 0, .int .i64 0, .bool false]]) (by simp [results, Try.results29, go_sem, q_r, l_r, q_o, l_o, q_p, l_p, q_t, l_t, q_l, l_l]) rfl ?_
        exact ⟨rfl, by go_grown⟩
    · rw [if_neg hx1]
      have g5 : (x == 1) = false := by simpa using hx1
      clear hx1
      by_cases h3 : s2.err = 0
      · have k1 : (s2.err == 0) = true := by simpa using h3
        have k2 : (s2.err != 0) = false := by simpa using h3
        rw [if_pos h3]
        clear h3
        go_enter Try.func29, Try.ntmps29
        go_wp2_with fail
        refine at_world (F := fun w' => Var w' (w.heap.size) #[.slice A n c, .int .i64 (s.at_ : Int), .int .i64 s.err] 35 ∧ Var w' (w.heap.size + 1) #[.slice none 0 0, .int .i64 0, .int .i64 0] 35 ∧ Var w' (w.heap.size + 2) #[.int .i64 0, .int .i64 0, .bool false] 52 ∧ Below w.heap.size w w') ⟨((Var.new w _ _).alloc _).alloc _, (Var.new2 w _ _ _).alloc _, Var.new3 w _ _ _ _, by go_grown⟩ ?_
        rintro w1 ⟨v_r, v_o, v_p, bw⟩
        have sz := bw.size
        refine (HC.out _ ((HR.out.below bw).more bw.size)).mono ?_
        rintro e w2 ⟨rfl, hb⟩
        replace v_r := v_r.below hb v_r.lt
        replace v_o := v_o.below hb v_o.lt
        replace v_p := v_p.below hb v_p.lt
        replace bw := bw.trans (hb.mono bw.size)
        replace sz := bw.size
        clear hb
        have q_r := v_r.cells
        have z_r := v_r.froz
        have l_r := v_r.lt
        have q_o := v_o.cells
        have z_o := v_o.froz
        have l_o := v_o.lt
        have q_p := v_p.cells
        have z_p := v_p.froz
        have l_p := v_p.lt
        have d_r_t := v_r.lt
        have d_o_t := v_o.lt
        have d_p_t := v_p.lt
        have d_r_l := v_r.lt
        have d_o_l := v_o.lt
        have d_p_l := v_p.lt
        go_wp2_with fail
        refine at_world (F := fun w' => Var w' (w.heap.size) #[.slice A n c, .int .i64 (s.at_ : Int), .int .i64 s.err] 35 ∧ Var w' (w.heap.size + 1) #[.slice none 0 0, .int .i64 0, .int .i64 0] 35 ∧ Var w' (w.heap.size + 2) #[.int .i64 0, .int .i64 0, .bool false] 52 ∧ Var w' (w2.heap.size) #[.slice A n c, .int .i64 (s1.at_ : Int), .int .i64 s1.err] 35 ∧ Var w' (w2.heap.size + 1) #[.int .i64 0, .int .i64 0, .bool false] 52 ∧ Below w.heap.size w w') ⟨((v_r).alloc _).alloc _, ((v_o).alloc _).alloc _, ((v_p).alloc _).alloc _, (Var.newE _ _ _ (by simp)).alloc _, Var.newE2 _ _ _ _ (by simp), by go_grown⟩ ?_
        clear q_r z_r l_r q_o z_o l_o q_p z_p l_p v_r v_o v_p bw sz
        rintro w3 ⟨v_r, v_o, v_p, v_t, v_l, bw⟩
        have sz := bw.size
        rw [HS1.out]
        refine (HN.out _ ((HR.out.below bw).more bw.size)).mono ?_
        rintro e w4 ⟨rfl, hb⟩
        replace v_r := v_r.below hb v_r.lt
        replace v_o := v_o.below hb v_o.lt
        replace v_p := v_p.below hb v_p.lt
        replace v_t := v_t.below hb v_t.lt
        replace v_l := v_l.below hb v_l.lt
        replace bw := bw.trans (hb.mono bw.size)
        replace sz := bw.size
        clear hb
        have q_r := v_r.cells
        have z_r := v_r.froz
        have l_r := v_r.lt
        have q_o := v_o.cells
        have z_o := v_o.froz
        have l_o := v_o.lt
        have q_p := v_p.cells
        have z_p := v_p.froz
        have l_p := v_p.lt
        have q_t := v_t.cells
        have z_t := v_t.froz
        have l_t := v_t.lt
        have q_l := v_l.cells
        have z_l := v_l.froz
        have l_l := v_l.lt
        (try dsimp only)
        repeat (first | go_values | go_skip | go_guarded | go_step | go_upon)
        go_region
        all_goals
          (try dsimp only)
          repeat (first | go_values | go_skip | go_guarded | go_step | go_upon)
          refine bodyPost_ret (v := .tuple #[.agg #[.slice A n c, .int .i64 (s2.at_ : Int), .int .i64 s2.err], .agg #[.int .i64 m1, .int .i64 0, .bool false]]) (by simp [results, Try.results29, go_sem, q_r, l_r, q_o, l_o, q_p, l_p, q_t, l_t, q_l, l_l]) rfl ?_
          exact ⟨rfl, by go_grown⟩
      · have k1 : (s2.err == 0) = false := by simpa using h3
        have k2 : (s2.err != 0) = true := by simpa using h3
        rw [if_neg h3]
        clear h3
        go_enter Try.func29, Try.ntmps29
        go_wp2_with fail
        refine at_world (F := fun w' => Var w' (w.heap.size) #[.slice A n c, .int .i64 (s.at_ : Int), .int .i64 s.err] 35 ∧ Var w' (w.heap.size + 1) #[.slice none 0 0, .int .i64 0, .int .i64 0] 35 ∧ Var w' (w.heap.size + 2) #[.int .i64 0, .int .i64 0, .bool false] 52 ∧ Below w.heap.size w w') ⟨((Var.new w _ _).alloc _).alloc _, (Var.new2 w _ _ _).alloc _, Var.new3 w _ _ _ _, by go_grown⟩ ?_
        rintro w1 ⟨v_r, v_o, v_p, bw⟩
        have sz := bw.size
        refine (HC.out _ ((HR.out.below bw).more bw.size)).mono ?_
        rintro e w2 ⟨rfl, hb⟩
        replace v_r := v_r.below hb v_r.lt
        replace v_o := v_o.below hb v_o.lt
        replace v_p := v_p.below hb v_p.lt
        replace bw := bw.trans (hb.mono bw.size)
        replace sz := bw.size
        clear hb
        have q_r := v_r.cells
        have z_r := v_r.froz
        have l_r := v_r.lt
        have q_o := v_o.cells
        have z_o := v_o.froz
        have l_o := v_o.lt
        have q_p := v_p.cells
        have z_p := v_p.froz
        have l_p := v_p.lt
        have d_r_t := v_r.lt
        have d_o_t := v_o.lt
        have d_p_t := v_p.lt
        have d_r_l := v_r.lt
        have d_o_l := v_o.lt
        have d_p_l := v_p.lt
        go_wp2_with fail
        refine at_world (F := fun w' => Var w' (w.heap.size) #[.slice A n c, .int .i64 (s.at_ : Int), .int .i64 s.err] 35 ∧ Var w' (w.heap.size + 1) #[.slice none 0 0, .int .i64 0, .int .i64 0] 35 ∧ Var w' (w.heap.size + 2) #[.int .i64 0, .int .i64 0, .bool false] 52 ∧ Var w' (w2.heap.size) #[.slice A n c, .int .i64 (s1.at_ : Int), .int .i64 s1.err] 35 ∧ Var w' (w2.heap.size + 1) #[.int .i64 0, .int .i64 0, .bool false] 52 ∧ Below w.heap.size w w') ⟨((v_r).alloc _).alloc _, ((v_o).alloc _).alloc _, ((v_p).alloc _).alloc _, (Var.newE _ _ _ (by simp)).alloc _, Var.newE2 _ _ _ _ (by simp), by go_grown⟩ ?_
        clear q_r z_r l_r q_o z_o l_o q_p z_p l_p v_r v_o v_p bw sz
        rintro w3 ⟨v_r, v_o, v_p, v_t, v_l, bw⟩
        have sz := bw.size
        rw [HS1.out]
        refine (HN.out _ ((HR.out.below bw).more bw.size)).mono ?_
        rintro e w4 ⟨rfl, hb⟩
        replace v_r := v_r.below hb v_r.lt
        replace v_o := v_o.below hb v_o.lt
        replace v_p := v_p.below hb v_p.lt
        replace v_t := v_t.below hb v_t.lt
        replace v_l := v_l.below hb v_l.lt
        replace bw := bw.trans (hb.mono bw.size)
        replace sz := bw.size
        clear hb
        have q_r := v_r.cells
        have z_r := v_r.froz
        have l_r := v_r.lt
        have q_o := v_o.cells
        have z_o := v_o.froz
        have l_o := v_o.lt
        have q_p := v_p.cells
        have z_p := v_p.froz
        have l_p := v_p.lt
        have q_t := v_t.cells
        have z_t := v_t.froz
        have l_t := v_t.lt
        have q_l := v_l.cells
        have z_l := v_l.froz
        have l_l := v_l.lt
        (try dsimp only)
        repeat (first | go_values | go_skip | go_guarded | go_step | go_upon)
        refine bodyPost_ret (v := .tuple #[.agg #[.slice A n c, .int .i64 (s2.at_ : Int), .int .i64 s2.err], .agg #[.int .i64 0, .int .i64 0, .bool false]]) (by simp [results, Try.results29, go_sem, q_r, l_r, q_o, l_o, q_p, l_p, q_t, l_t, q_l, l_l]) rfl ?_
        exact ⟨rfl, by go_grown⟩
  · have g2 : (s1.err == 0) = true := by simpa using h1
    have g3 : decide (1 < x) = true := by simp; omega
    have HS1 : Hid (s1.fail 4 = s1') := hs.symm
    clear hs h1
    have g5 : (x == 1) = false := by simp; omega
    rw [if_neg (show ¬ x = 1 by omega)]
    clear h2
    by_cases h3 : s2.err = 0
    · have k1 : (s2.err == 0) = true := by simpa using h3
      have k2 : (s2.err != 0) = false := by simpa using h3
      rw [if_pos h3]
      clear h3
      go_enter Try.func29, Try.ntmps29
      go_wp2_with fail
      refine at_world (F := fun w' => Var w' (w.heap.size) #[.slice A n c, .int .i64 (s.at_ : Int), .int .i64 s.err] 35 ∧ Var w' (w.heap.size + 1) #[.slice none 0 0, .int .i64 0, .int .i64 0] 35 ∧ Var w' (w.heap.size + 2) #[.int .i64 0, .int .i64 0, .bool false] 52 ∧ Below w.heap.size w w') ⟨((Var.new w _ _).alloc _).alloc _, (Var.new2 w _ _ _).alloc _, Var.new3 w _ _ _ _, by go_grown⟩ ?_
      rintro w1 ⟨v_r, v_o, v_p, bw⟩
      have sz := bw.size
      refine (HC.out _ ((HR.out.below bw).more bw.size)).mono ?_
      rintro e w2 ⟨rfl, hb⟩
      replace v_r := v_r.below hb v_r.lt
      replace v_o := v_o.below hb v_o.lt
      replace v_p := v_p.below hb v_p.lt
      replace bw := bw.trans (hb.mono bw.size)
      replace sz := bw.size
      clear hb
      have q_r := v_r.cells
      have z_r := v_r.froz
      have l_r := v_r.lt
      have q_o := v_o.cells
      have z_o := v_o.froz
      have l_o := v_o.lt
      have q_p := v_p.cells
      have z_p := v_p.froz
      have l_p := v_p.lt
      have d_r_t := v_r.lt
      have d_o_t := v_o.lt
      have d_p_t := v_p.lt
      go_wp2_with fail
      refine at_world (F := fun w' => Var w' (w.heap.size) #[.slice A n c, .int .i64 (s.at_ : Int), .int .i64 s.err] 35 ∧ Var w' (w.heap.size + 1) #[.slice none 0 0, .int .i64 0, .int .i64 0] 35 ∧ Var w' (w.heap.size + 2) #[.int .i64 0, .int .i64 0, .bool false] 52 ∧ Var w' (w2.heap.size) #[.slice A n c, .int .i64 (s1.at_ : Int), .int .i64 s1.err] 35 ∧ Below w.heap.size w w') ⟨(v_r).alloc _, (v_o).alloc _, (v_p).alloc _, Var.newE _ _ _ (by simp), by go_grown⟩ ?_
      clear q_r z_r l_r q_o z_o l_o q_p z_p l_p v_r v_o v_p bw sz
      rintro w3 ⟨v_r, v_o, v_p, v_t, bw⟩
      have sz := bw.size
      refine (HF4.out _).mono ?_
      rintro e w4 ⟨rfl, hb⟩
      replace v_r := v_r.below hb v_r.lt
      replace v_o := v_o.below hb v_o.lt
      replace v_p := v_p.below hb v_p.lt
      replace v_t := v_t.below hb v_t.lt
      replace bw := bw.trans (hb.mono bw.size)
      replace sz := bw.size
      clear hb
      have q_r := v_r.cells
      have z_r := v_r.froz
      have l_r := v_r.lt
      have q_o := v_o.cells
      have z_o := v_o.froz
      have l_o := v_o.lt
      have q_p := v_p.cells
      have z_p := v_p.froz
      have l_p := v_p.lt
      have q_t := v_t.cells
      have z_t := v_t.froz
      have l_t := v_t.lt
      rw [HS1.out]
      have d_r_l := v_r.lt
      have d_o_l := v_o.lt
      have d_p_l := v_p.lt
      have d_t_l := v_t.lt
      go_wp2_with fail
      refine at_world (F := fun w' => Var w' (w.heap.size) #[.slice A n c, .int .i64 (s.at_ : Int), .int .i64 s.err] 35 ∧ Var w' (w.heap.size + 1) #[.slice none 0 0, .int .i64 0, .int .i64 0] 35 ∧ Var w' (w.heap.size + 2) #[.int .i64 0, .int .i64 0, .bool false] 52 ∧ Var w' (w2.heap.size) #[.slice A n c, .int .i64 (s1'.at_ : Int), .int .i64 s1'.err] 35 ∧ Var w' (w4.heap.size) #[.int .i64 0, .int .i64 0, .bool false] 52 ∧ Below w.heap.size w w') ⟨((((v_r).other (by omega) 0 _).other (by omega) 1 _).other (by omega) 2 _).alloc _, ((((v_o).other (by omega) 0 _).other (by omega) 1 _).other (by omega) 2 _).alloc _, ((((v_p).other (by omega) 0 _).other (by omega) 1 _).other (by omega) 2 _).alloc _, ((((v_t).set 0 _).set 1 _).set 2 _).alloc _, Var.newE _ _ _ (by simp), by go_grown⟩ ?_
      clear q_r z_r l_r q_o z_o l_o q_p z_p l_p q_t z_t l_t v_r v_o v_p v_t bw sz
      rintro w5 ⟨v_r, v_o, v_p, v_t, v_l, bw⟩
      have sz := bw.size
      refine (HN.out _ ((HR.out.below bw).more bw.size)).mono ?_
      rintro e w6 ⟨rfl, hb⟩
      replace v_r := v_r.below hb v_r.lt
      replace v_o := v_o.below hb v_o.lt
      replace v_p := v_p.below hb v_p.lt
      replace v_t := v_t.below hb v_t.lt
      replace v_l := v_l.below hb v_l.lt
      replace bw := bw.trans (hb.mono bw.size)
      replace sz := bw.size
      clear hb
      have q_r := v_r.cells
      have z_r := v_r.froz
      have l_r := v_r.lt
      have q_o := v_o.cells
      have z_o := v_o.froz
      have l_o := v_o.lt
      have q_p := v_p.cells
      have z_p := v_p.froz
      have l_p := v_p.lt
      have q_t := v_t.cells
      have z_t := v_t.froz
      have l_t := v_t.lt
      have q_l := v_l.cells
      have z_l := v_l.froz
      have l_l := v_l.lt
      (try dsimp only)
      repeat (first | go_values | go_skip | go_guarded | go_step | go_upon)
      go_region
      all_goals
        (try dsimp only)
        repeat (first | go_values | go_skip | go_guarded | go_step | go_upon)
        refine bodyPost_ret (v := .tuple #[.agg #[.slice A n c, .int .i64 (s2.at_ : Int), .int .i64 s2.err], .agg #[.int .i64 m1, .int .i64 0, .bool false]]) (by simp [results, Try.results29, go_sem, q_r, l_r, q_o, l_o, q_p, l_p, q_t, l_t, q_l, l_l]) rfl ?_
        exact ⟨rfl, by go_grown⟩
    · have k1 : (s2.err == 0) = false := by simpa using h3
      have k2 : (s2.err != 0) = true := by simpa using h3
      rw [if_neg h3]
      clear h3
      go_enter Try.func29, Try.ntmps29
      go_wp2_with fail
      refine at_world (F := fun w' => Var w' (w.heap.size) #[.slice A n c, .int .i64 (s.at_ : Int), .int .i64 s.err] 35 ∧ Var w' (w.heap.size + 1) #[.slice none 0 0, .int .i64 0, .int .i64 0] 35 ∧ Var w' (w.heap.size + 2) #[.int .i64 0, .int .i64 0, .bool false] 52 ∧ Below w.heap.size w w') ⟨((Var.new w _ _).alloc _).alloc _, (Var.new2 w _ _ _).alloc _, Var.new3 w _ _ _ _, by go_grown⟩ ?_
      rintro w1 ⟨v_r, v_o, v_p, bw⟩
      have sz := bw.size
      refine (HC.out _ ((HR.out.below bw).more bw.size)).mono ?_
      rintro e w2 ⟨rfl, hb⟩
      replace v_r := v_r.below hb v_r.lt
      replace v_o := v_o.below hb v_o.lt
      replace v_p := v_p.below hb v_p.lt
      replace bw := bw.trans (hb.mono bw.size)
      replace sz := bw.size
      clear hb
      have q_r := v_r.cells
      have z_r := v_r.froz
      have l_r := v_r.lt
      have q_o := v_o.cells
      have z_o := v_o.froz
      have l_o := v_o.lt
      have q_p := v_p.cells
      have z_p := v_p.froz
      have l_p := v_p.lt
      have d_r_t := v_r.lt
      have d_o_t := v_o.lt
      have d_p_t := v_p.lt
      go_wp2_with fail
      refine at_world (F := fun w' => Var w' (w.heap.size) #[.slice A n c, .int .i64 (s.at_ : Int), .int .i64 s.err] 35 ∧ Var w' (w.heap.size + 1) #[.slice none 0 0, .int .i64 0, .int .i64 0] 35 ∧ Var w' (w.heap.size + 2) #[.int .i64 0, .int .i64 0, .bool false] 52 ∧ Var w' (w2.heap.size) #[.slice A n c, .int .i64 (s1.at_ : Int), .int .i64 s1.err] 35 ∧ Below w.heap.size w w') ⟨(v_r).alloc _, (v_o).alloc _, (v_p).alloc _, Var.newE _ _ _ (by simp), by go_grown⟩ ?_
      clear q_r z_r l_r q_o z_o l_o q_p z_p l_p v_r v_o v_p bw sz
      rintro w3 ⟨v_r, v_o, v_p, v_t, bw⟩
      have sz := bw.size
      refine (HF4.out _).mono ?_
      rintro e w4 ⟨rfl, hb⟩
      replace v_r := v_r.below hb v_r.lt
      replace v_o := v_o.below hb v_o.lt
      replace v_p := v_p.below hb v_p.lt
      replace v_t := v_t.below hb v_t.lt
      replace bw := bw.trans (hb.mono bw.size)
      replace sz := bw.size
      clear hb
      have q_r := v_r.cells
      have z_r := v_r.froz
      have l_r := v_r.lt
      have q_o := v_o.cells
      have z_o := v_o.froz
      have l_o := v_o.lt
      have q_p := v_p.cells
      have z_p := v_p.froz
      have l_p := v_p.lt
      have q_t := v_t.cells
      have z_t := v_t.froz
      have l_t := v_t.lt
      rw [HS1.out]
      have d_r_l := v_r.lt
      have d_o_l := v_o.lt
      have d_p_l := v_p.lt
      have d_t_l := v_t.lt
      go_wp2_with fail
      refine at_world (F := fun w' => Var w' (w.heap.size) #[.slice A n c, .int .i64 (s.at_ : Int), .int .i64 s.err] 35 ∧ Var w' (w.heap.size + 1) #[.slice none 0 0, .int .i64 0, .int .i64 0] 35 ∧ Var w' (w.heap.size + 2) #[.int .i64 0, .int .i64 0, .bool false] 52 ∧ Var w' (w2.heap.size) #[.slice A n c, .int .i64 (s1'.at_ : Int), .int .i64 s1'.err] 35 ∧ Var w' (w4.heap.size) #[.int .i64 0, .int .i64 0, .bool false] 52 ∧ Below w.heap.size w w') ⟨((((v_r).other (by omega) 0 _).other (by omega) 1 _).other (by omega) 2 _).alloc _, ((((v_o).other (by omega) 0 _).other (by omega) 1 _).other (by omega) 2 _).alloc _, ((((v_p).other (by omega) 0 _).other (by omega) 1 _).other (by omega) 2 _).alloc _, ((((v_t).set 0 _).set 1 _).set 2 _).alloc _, Var.newE _ _ _ (by simp), by go_grown⟩ ?_
      clear q_r z_r l_r q_o z_o l_o q_p z_p l_p q_t z_t l_t v_r v_o v_p v_t bw sz
      rintro w5 ⟨v_r, v_o, v_p, v_t, v_l, bw⟩
      have sz := bw.size
      refine (HN.out _ ((HR.out.below bw).more bw.size)).mono ?_
      rintro e w6 ⟨rfl, hb⟩
      replace v_r := v_r.below hb v_r.lt
      replace v_o := v_o.below hb v_o.lt
      replace v_p := v_p.below hb v_p.lt
      replace v_t := v_t.below hb v_t.lt
      replace v_l := v_l.below hb v_l.lt
      replace bw := bw.trans (hb.mono bw.size)
      replace sz := bw.size
      clear hb
      have q_r := v_r.cells
      have z_r := v_r.froz
      have l_r := v_r.lt
      have q_o := v_o.cells
      have z_o := v_o.froz
      have l_o := v_o.lt
      have q_p := v_p.cells
      have z_p := v_p.froz
      have l_p := v_p.lt
      have q_t := v_t.cells
      have z_t := v_t.froz
      have l_t := v_t.lt
      have q_l := v_l.cells
      have z_l := v_l.froz
      have l_l := v_l.lt
      (try dsimp only)
      repeat (first | go_values | go_skip | go_guarded | go_step | go_upon)
      refine bodyPost_ret (v := .tuple #[.agg #[.slice A n c, .int .i64 (s2.at_ : Int), .int .i64 s2.err], .agg #[.int .i64 0, .int .i64 0, .bool false]]) (by simp [results, Try.results29, go_sem, q_r, l_r, q_o, l_o, q_p, l_p, q_t, l_t, q_l, l_l]) rfl ?_
      exact ⟨rfl, by go_grown⟩
  · have g2 : (s1.err == 0) = false := by simpa using h1
    have HS1 : Hid (s1 = s1') := hs.symm
    clear hs h1
    by_cases hx1 : x = 1
    · rw [if_pos hx1]
      have g5 : (x == 1) = true := by simpa using hx1
      clear hx1
      by_cases h3 : s3.err = 0
      · have k1 : (s3.err == 0) = true := by simpa using h3
        have k2 : (s3.err != 0) = false := by simpa using h3
        by_cases hnm : m1 ≤ m2
        · have k3 : decide (m2 < m1) = false := by simp; omega
          rw [must_no (by simp [hnm]), if_pos h3]
          clear h3 hnm
          go_enter Try.func29, Try.ntmps29
          go_wp2_with fail
          refine at_world (F := fun w' => Var w' (w.heap.size) #[.slice A n c, .int .i64 (s.at_ : Int), .int .i64 s.err] 35 ∧ Var w' (w.heap.size + 1) #[.slice none 0 0, .int .i64 0, .int .i64 0] 35 ∧ Var w' (w.heap.size + 2) #[.int .i64 0, .int .i64 0, .bool false] 52 ∧ Below w.heap.size w w') ⟨((Var.new w _ _).alloc _).alloc _, (Var.new2 w _ _ _).alloc _, Var.new3 w _ _ _ _, by go_grown⟩ ?_
          rintro w1 ⟨v_r, v_o, v_p, bw⟩
          have sz := bw.size
          refine (HC.out _ ((HR.out.below bw).more bw.size)).mono ?_
          rintro e w2 ⟨rfl, hb⟩
          replace v_r := v_r.below hb v_r.lt
          replace v_o := v_o.below hb v_o.lt
          replace v_p := v_p.below hb v_p.lt
          replace bw := bw.trans (hb.mono bw.size)
          replace sz := bw.size
          clear hb
          have q_r := v_r.cells
          have z_r := v_r.froz
          have l_r := v_r.lt
          have q_o := v_o.cells
          have z_o := v_o.froz
          have l_o := v_o.lt
          have q_p := v_p.cells
          have z_p := v_p.froz
          have l_p := v_p.lt
          have d_r_t := v_r.lt
          have d_o_t := v_o.lt
          have d_p_t := v_p.lt
          have d_r_l := v_r.lt
          have d_o_l := v_o.lt
          have d_p_l := v_p.lt
          go_wp2_with fail
          refine at_world (F := fun w' => Var w' (w.heap.size) #[.slice A n c, .int .i64 (s.at_ : Int), .int .i64 s.err] 35 ∧ Var w' (w.heap.size + 1) #[.slice none 0 0, .int .i64 0, .int .i64 0] 35 ∧ Var w' (w.heap.size + 2) #[.int .i64 0, .int .i64 0, .bool false] 52 ∧ Var w' (w2.heap.size) #[.slice A n c, .int .i64 (s1.at_ : Int), .int .i64 s1.err] 35 ∧ Var w' (w2.heap.size + 1) #[.int .i64 0, .int .i64 0, .bool true] 52 ∧ Below w.heap.size w w') ⟨((v_r).alloc _).alloc _, ((v_o).alloc _).alloc _, ((v_p).alloc _).alloc _, (Var.newE _ _ _ (by simp)).alloc _, Var.newE2 _ _ _ _ (by simp), by go_grown⟩ ?_
          clear q_r z_r l_r q_o z_o l_o q_p z_p l_p v_r v_o v_p bw sz
          rintro w3 ⟨v_r, v_o, v_p, v_t, v_l, bw⟩
          have sz := bw.size
          rw [HS1.out]
          refine (HN.out _ ((HR.out.below bw).more bw.size)).mono ?_
          rintro e w4 ⟨rfl, hb⟩
          replace v_r := v_r.below hb v_r.lt
          replace v_o := v_o.below hb v_o.lt
          replace v_p := v_p.below hb v_p.lt
          replace v_t := v_t.below hb v_t.lt
          replace v_l := v_l.below hb v_l.lt
          replace bw := bw.trans (hb.mono bw.size)
          replace sz := bw.size
          clear hb
          have q_r := v_r.cells
          have z_r := v_r.froz
          have l_r := v_r.lt
          have q_o := v_o.cells
          have z_o := v_o.froz
          have l_o := v_o.lt
          have q_p := v_p.cells
          have z_p := v_p.froz
          have l_p := v_p.lt
          have q_t := v_t.cells
          have z_t := v_t.froz
          have l_t := v_t.lt
          have q_l := v_l.cells
          have z_l := v_l.froz
          have l_l := v_l.lt
          go_wp2_with fail
          refine at_world (F := fun w' => Var w' (w.heap.size) #[.slice A n c, .int .i64 (s.at_ : Int), .int .i64 s.err] 35 ∧ Var w' (w.heap.size + 1) #[.slice none 0 0, .int .i64 0, .int .i64 0] 35 ∧ Var w' (w.heap.size + 2) #[.int .i64 0, .int .i64 0, .bool false] 52 ∧ Var w' (w2.heap.size) #[.slice A n c, .int .i64 (s2.at_ : Int), .int .i64 s2.err] 35 ∧ Var w' (w2.heap.size + 1) #[.int .i64 m1, .int .i64 0, .bool true] 52 ∧ Below w.heap.size w w') ⟨((((v_r).other (by omega) 0 _).other (by omega) 1 _).other (by omega) 2 _).other (by omega) 0 _, ((((v_o).other (by omega) 0 _).other (by omega) 1 _).other (by omega) 2 _).other (by omega) 0 _, ((((v_p).other (by omega) 0 _).other (by omega) 1 _).other (by omega) 2 _).other (by omega) 0 _, ((((v_t).set 0 _).set 1 _).set 2 _).other (by omega) 0 _, ((((v_l).other (by omega) 0 _).other (by omega) 1 _).other (by omega) 2 _).set 0 _, by go_grown⟩ ?_
          clear q_r z_r l_r q_o z_o l_o q_p z_p l_p q_t z_t l_t q_l z_l l_l v_r v_o v_p v_t v_l bw sz
          rintro w5 ⟨v_r, v_o, v_p, v_t, v_l, bw⟩
          have sz := bw.size
          refine (HM.out _ ((HR.out.below bw).more bw.size)).mono ?_
          rintro e w6 ⟨rfl, hb⟩
          replace v_r := v_r.below hb v_r.lt
          replace v_o := v_o.below hb v_o.lt
          replace v_p := v_p.below hb v_p.lt
          replace v_t := v_t.below hb v_t.lt
          replace v_l := v_l.below hb v_l.lt
          replace bw := bw.trans (hb.mono bw.size)
          replace sz := bw.size
          clear hb
          have q_r := v_r.cells
          have z_r := v_r.froz
          have l_r := v_r.lt
          have q_o := v_o.cells
          have z_o := v_o.froz
          have l_o := v_o.lt
          have q_p := v_p.cells
          have z_p := v_p.froz
          have l_p := v_p.lt
          have q_t := v_t.cells
          have z_t := v_t.froz
          have l_t := v_t.lt
          have q_l := v_l.cells
          have z_l := v_l.froz
          have l_l := v_l.lt
          have d_r_q := v_r.lt
          have d_o_q := v_o.lt
          have d_p_q := v_p.lt
          have d_t_q := v_t.lt
          have d_l_q := v_l.lt
          (try dsimp only)
          repeat (first | go_values | go_skip | go_guarded | go_step | go_upon)
          go_region
          all_goals
            (try dsimp only)
            repeat (first | go_values | go_skip | go_guarded | go_step | go_upon)
            refine bodyPost_ret (v := .tuple #[.agg #[.slice A n c, .int .i64 (s3.at_ : Int), .int .i64 s3.err], .agg #[.int .i64 m1, .int .i64 m2, .bool true]]) (by simp [results, Try.results29, go_sem, q_r, l_r, q_o, l_o, q_p, l_p, q_t, l_t, q_l, l_l]) rfl ?_
            exact ⟨rfl, by go_grown⟩
        · have k3 : decide (m2 < m1) = true := by simp; omega
          have k4 : ((s3.fail 20).err != 0) = true := by rw [fail_err h3]; decide
          have hnm2 : decide (m1 ≤ m2) = false := by simp; omega
          rw [hnm2, must_yes h3, if_neg (by rw [fail_err h3]; decide)]
          clear h3 hnm hnm2 k2
          go_enter Try.func29, Try.ntmps29
          go_wp2_with fail
          refine at_world (F := fun w' => Var w' (w.heap.size) #[.slice A n c, .int .i64 (s.at_ : Int), .int .i64 s.err] 35 ∧ Var w' (w.heap.size + 1) #[.slice none 0 0, .int .i64 0, .int .i64 0] 35 ∧ Var w' (w.heap.size + 2) #[.int .i64 0, .int .i64 0, .bool false] 52 ∧ Below w.heap.size w w') ⟨((Var.new w _ _).alloc _).alloc _, (Var.new2 w _ _ _).alloc _, Var.new3 w _ _ _ _, by go_grown⟩ ?_
          rintro w1 ⟨v_r, v_o, v_p, bw⟩
          have sz := bw.size
          refine (HC.out _ ((HR.out.below bw).more bw.size)).mono ?_
          rintro e w2 ⟨rfl, hb⟩
          replace v_r := v_r.below hb v_r.lt
          replace v_o := v_o.below hb v_o.lt
          replace v_p := v_p.below hb v_p.lt
          replace bw := bw.trans (hb.mono bw.size)
          replace sz := bw.size
          clear hb
          have q_r := v_r.cells
          have z_r := v_r.froz
          have l_r := v_r.lt
          have q_o := v_o.cells
          have z_o := v_o.froz
          have l_o := v_o.lt
          have q_p := v_p.cells
          have z_p := v_p.froz
          have l_p := v_p.lt
          have d_r_t := v_r.lt
          have d_o_t := v_o.lt
          have d_p_t := v_p.lt
          have d_r_l := v_r.lt
          have d_o_l := v_o.lt
          have d_p_l := v_p.lt
          go_wp2_with fail
          refine at_world (F := fun w' => Var w' (w.heap.size) #[.slice A n c, .int .i64 (s.at_ : Int), .int .i64 s.err] 35 ∧ Var w' (w.heap.size + 1) #[.slice none 0 0, .int .i64 0, .int .i64 0] 35 ∧ Var w' (w.heap.size + 2) #[.int .i64 0, .int .i64 0, .bool false] 52 ∧ Var w' (w2.heap.size) #[.slice A n c, .int .i64 (s1.at_ : Int), .int .i64 s1.err] 35 ∧ Var w' (w2.heap.size + 1) #[.int .i64 0, .int .i64 0, .bool true] 52 ∧ Below w.heap.size w w') ⟨((v_r).alloc _).alloc _, ((v_o).alloc _).alloc _, ((v_p).alloc _).alloc _, (Var.newE _ _ _ (by simp)).alloc _, Var.newE2 _ _ _ _ (by simp), by go_grown⟩ ?_
          clear q_r z_r l_r q_o z_o l_o q_p z_p l_p v_r v_o v_p bw sz
          rintro w3 ⟨v_r, v_o, v_p, v_t, v_l, bw⟩
          have sz := bw.size
          rw [HS1.out]
          refine (HN.out _ ((HR.out.below bw).more bw.size)).mono ?_
          rintro e w4 ⟨rfl, hb⟩
          replace v_r := v_r.below hb v_r.lt
          replace v_o := v_o.below hb v_o.lt
          replace v_p := v_p.below hb v_p.lt
          replace v_t := v_t.below hb v_t.lt
          replace v_l := v_l.below hb v_l.lt
          replace bw := bw.trans (hb.mono bw.size)
          replace sz := bw.size
          clear hb
          have q_r := v_r.cells
          have z_r := v_r.froz
          have l_r := v_r.lt
          have q_o := v_o.cells
          have z_o := v_o.froz
          have l_o := v_o.lt
          have q_p := v_p.cells
          have z_p := v_p.froz
          have l_p := v_p.lt
          have q_t := v_t.cells
          have z_t := v_t.froz
          have l_t := v_t.lt
          have q_l := v_l.cells
          have z_l := v_l.froz
          have l_l := v_l.lt
          go_wp2_with fail
          refine at_world (F := fun w' => Var w' (w.heap.size) #[.slice A n c, .int .i64 (s.at_ : Int), .int .i64 s.err] 35 ∧ Var w' (w.heap.size + 1) #[.slice none 0 0, .int .i64 0, .int .i64 0] 35 ∧ Var w' (w.heap.size + 2) #[.int .i64 0, .int .i64 0, .bool false] 52 ∧ Var w' (w2.heap.size) #[.slice A n c, .int .i64 (s2.at_ : Int), .int .i64 s2.err] 35 ∧ Var w' (w2.heap.size + 1) #[.int .i64 m1, .int .i64 0, .bool true] 52 ∧ Below w.heap.size w w') ⟨((((v_r).other (by omega) 0 _).other (by omega) 1 _).other (by omega) 2 _).other (by omega) 0 _, ((((v_o).other (by omega) 0 _).other (by omega) 1 _).other (by omega) 2 _).other (by omega) 0 _, ((((v_p).other (by omega) 0 _).other (by omega) 1 _).other (by omega) 2 _).other (by omega) 0 _, ((((v_t).set 0 _).set 1 _).set 2 _).other (by omega) 0 _, ((((v_l).other (by omega) 0 _).other (by omega) 1 _).other (by omega) 2 _).set 0 _, by go_grown⟩ ?_
          clear q_r z_r l_r q_o z_o l_o q_p z_p l_p q_t z_t l_t q_l z_l l_l v_r v_o v_p v_t v_l bw sz
          rintro w5 ⟨v_r, v_o, v_p, v_t, v_l, bw⟩
          have sz := bw.size
          refine (HM.out _ ((HR.out.below bw).more bw.size)).mono ?_
          rintro e w6 ⟨rfl, hb⟩
          replace v_r := v_r.below hb v_r.lt
          replace v_o := v_o.below hb v_o.lt
          replace v_p := v_p.below hb v_p.lt
          replace v_t := v_t.below hb v_t.lt
          replace v_l := v_l.below hb v_l.lt
          replace bw := bw.trans (hb.mono bw.size)
          replace sz := bw.size
          clear hb
          have q_r := v_r.cells
          have z_r := v_r.froz
          have l_r := v_r.lt
          have q_o := v_o.cells
          have z_o := v_o.froz
          have l_o := v_o.lt
          have q_p := v_p.cells
          have z_p := v_p.froz
          have l_p := v_p.lt
          have q_t := v_t.cells
          have z_t := v_t.froz
          have l_t := v_t.lt
          have q_l := v_l.cells
          have z_l := v_l.froz
          have l_l := v_l.lt
          have d_r_q := v_r.lt
          have d_o_q := v_o.lt
          have d_p_q := v_p.lt
          have d_t_q := v_t.lt
          have d_l_q := v_l.lt
          go_wp2_with fail
          refine at_world (F := fun w' => Var w' (w.heap.size) #[.slice A n c, .int .i64 (s.at_ : Int), .int .i64 s.err] 35 ∧ Var w' (w.heap.size + 1) #[.slice none 0 0, .int .i64 0, .int .i64 0] 35 ∧ Var w' (w.heap.size + 2) #[.int .i64 0, .int .i64 0, .bool false] 52 ∧ Var w' (w2.heap.size) #[.slice A n c, .int .i64 (s3.at_ : Int), .int .i64 s3.err] 35 ∧ Var w' (w2.heap.size + 1) #[.int .i64 m1, .int .i64 m2, .bool true] 52 ∧ Var w' (w6.heap.size) #[.slice A n c, .int .i64 (s3.at_ : Int), .int .i64 s3.err] 35 ∧ Below w.heap.size w w') ⟨(((((v_r).other (by omega) 0 _).other (by omega) 1 _).other (by omega) 2 _).other (by omega) 1 _).alloc _, (((((v_o).other (by omega) 0 _).other (by omega) 1 _).other (by omega) 2 _).other (by omega) 1 _).alloc _, (((((v_p).other (by omega) 0 _).other (by omega) 1 _).other (by omega) 2 _).other (by omega) 1 _).alloc _, (((((v_t).set 0 _).set 1 _).set 2 _).other (by omega) 1 _).alloc _, (((((v_l).other (by omega) 0 _).other (by omega) 1 _).other (by omega) 2 _).set 1 _).alloc _, Var.newE _ _ _ (by simp), by go_grown⟩ ?_
          clear q_r z_r l_r q_o z_o l_o q_p z_p l_p q_t z_t l_t q_l z_l l_l v_r v_o v_p v_t v_l bw sz
          rintro w7 ⟨v_r, v_o, v_p, v_t, v_l, v_q, bw⟩
          have sz := bw.size
          refine (HF20.out _).mono ?_
          rintro e w8 ⟨rfl, hb⟩
          replace v_r := v_r.below hb v_r.lt
          replace v_o := v_o.below hb v_o.lt
          replace v_p := v_p.below hb v_p.lt
          replace v_t := v_t.below hb v_t.lt
          replace v_l := v_l.below hb v_l.lt
          replace v_q := v_q.below hb v_q.lt
          replace bw := bw.trans (hb.mono bw.size)
          replace sz := bw.size
          clear hb
          have q_r := v_r.cells
          have z_r := v_r.froz
          have l_r := v_r.lt
          have q_o := v_o.cells
          have z_o := v_o.froz
          have l_o := v_o.lt
          have q_p := v_p.cells
          have z_p := v_p.froz
          have l_p := v_p.lt
          have q_t := v_t.cells
          have z_t := v_t.froz
          have l_t := v_t.lt
          have q_l := v_l.cells
          have z_l := v_l.froz
          have l_l := v_l.lt
          have q_q := v_q.cells
          have z_q := v_q.froz
          have l_q := v_q.lt
          (try dsimp only)
          repeat (first | go_values | go_skip | go_guarded | go_step | go_upon)
          refine bodyPost_ret (v := .tuple #[.agg #[.slice A n c, .int .i64 ((s3.fail 20).at_ : Int), .int .i64 (s3.fail 20).err], .agg #[.int .i64 0, .int .i64 0, .bool false]]) (by simp [results, Try.results29, go_sem, q_r, l_r, q_o, l_o, q_p, l_p, q_t, l_t, q_l, l_l, q_q, l_q]) rfl ?_
          exact ⟨rfl, by go_grown⟩
      · have k1 : (s3.err == 0) = false := by simpa using h3
        have k2 : (s3.err != 0) = true := by simpa using h3
        rw [must_no (fun hh => h3 hh.1), if_neg h3]
        clear h3
        go_enter Try.func29, Try.ntmps29
        go_wp2_with fail
        refine at_world (F := fun w' => Var w' (w.heap.size) #[.slice A n c, .int .i64 (s.at_ : Int), .int .i64 s.err] 35 ∧ Var w' (w.heap.size + 1) #[.slice none 0 0, .int .i64 0, .int .i64 0] 35 ∧ Var w' (w.heap.size + 2) #[.int .i64 0, .int .i64 0, .bool false] 52 ∧ Below w.heap.size w w') ⟨((Var.new w _ _).alloc _).alloc _, (Var.new2 w _ _ _).alloc _, Var.new3 w _ _ _ _, by go_grown⟩ ?_
        rintro w1 ⟨v_r, v_o, v_p, bw⟩
        have sz := bw.size
        refine (HC.out _ ((HR.out.below bw).more bw.size)).mono ?_
        rintro e w2 ⟨rfl, hb⟩
        replace v_r := v_r.below hb v_r.lt
        replace v_o := v_o.below hb v_o.lt
        replace v_p := v_p.below hb v_p.lt
        replace bw := bw.trans (hb.mono bw.size)
        replace sz := bw.size
        clear hb
        have q_r := v_r.cells
        have z_r := v_r.froz
        have l_r := v_r.lt
        have q_o := v_o.cells
        have z_o := v_o.froz
        have l_o := v_o.lt
        have q_p := v_p.cells
        have z_p := v_p.froz
        have l_p := v_p.lt
        have d_r_t := v_r.lt
        have d_o_t := v_o.lt
        have d_p_t := v_p.lt
        have d_r_l := v_r.lt
        have d_o_l := v_o.lt
        have d_p_l := v_p.lt
        go_wp2_with fail
        refine at_world (F := fun w' => Var w' (w.heap.size) #[.slice A n c, .int .i64 (s.at_ : Int), .int .i64 s.err] 35 ∧ Var w' (w.heap.size + 1) #[.slice none 0 0, .int .i64 0, .int .i64 0] 35 ∧ Var w' (w.heap.size + 2) #[.int .i64 0, .int .i64 0, .bool false] 52 ∧ Var w' (w2.heap.size) #[.slice A n c, .int .i64 (s1.at_ : Int), .int .i64 s1.err] 35 ∧ Var w' (w2.heap.size + 1) #[.int .i64 0, .int .i64 0, .bool true] 52 ∧ Below w.heap.size w w') ⟨((v_r).alloc _).alloc _, ((v_o).alloc _).alloc _, ((v_p).alloc _).alloc _, (Var.newE _ _ _ (by simp)).alloc _, Var.newE2 _ _ _ _ (by simp), by go_grown⟩ ?_
        clear q_r z_r l_r q_o z_o l_o q_p z_p l_p v_r v_o v_p bw sz
        rintro w3 ⟨v_r, v_o, v_p, v_t, v_l, bw⟩
        have sz := bw.size
        rw [HS1.out]
        refine (HN.out _ ((HR.out.below bw).more bw.size)).mono ?_
        rintro e w4 ⟨rfl, hb⟩
        replace v_r := v_r.below hb v_r.lt
        replace v_o := v_o.below hb v_o.lt
        replace v_p := v_p.below hb v_p.lt
        replace v_t := v_t.below hb v_t.lt
        replace v_l := v_l.below hb v_l.lt
        replace bw := bw.trans (hb.mono bw.size)
        replace sz := bw.size
        clear hb
        have q_r := v_r.cells
        have z_r := v_r.froz
        have l_r := v_r.lt
        have q_o := v_o.cells
        have z_o := v_o.froz
        have l_o := v_o.lt
        have q_p := v_p.cells
        have z_p := v_p.froz
        have l_p := v_p.lt
        have q_t := v_t.cells
        have z_t := v_t.froz
        have l_t := v_t.lt
        have q_l := v_l.cells
        have z_l := v_l.froz
        have l_l := v_l.lt
        go_wp2_with fail
        refine at_world (F := fun w' => Var w' (w.heap.size) #[.slice A n c, .int .i64 (s.at_ : Int), .int .i64 s.err] 35 ∧ Var w' (w.heap.size + 1) #[.slice none 0 0, .int .i64 0, .int .i64 0] 35 ∧ Var w' (w.heap.size + 2) #[.int .i64 0, .int .i64 0, .bool false] 52 ∧ Var w' (w2.heap.size) #[.slice A n c, .int .i64 (s2.at_ : Int), .int .i64 s2.err] 35 ∧ Var w' (w2.heap.size + 1) #[.int .i64 m1, .int .i64 0, .bool true] 52 ∧ Below w.heap.size w w') ⟨((((v_r).other (by omega) 0 _).other (by omega) 1 _).other (by omega) 2 _).other (by omega) 0 _, ((((v_o).other (by omega) 0 _).other (by omega) 1 _).other (by omega) 2 _).other (by omega) 0 _, ((((v_p).other (by omega) 0 _).other (by omega) 1 _).other (by omega) 2 _).other (by omega) 0 _, ((((v_t).set 0 _).set 1 _).set 2 _).other (by omega) 0 _, ((((v_l).other (by omega) 0 _).other (by omega) 1 _).other (by omega) 2 _).set 0 _, by go_grown⟩ ?_
        clear q_r z_r l_r q_o z_o l_o q_p z_p l_p q_t z_t l_t q_l z_l l_l v_r v_o v_p v_t v_l bw sz
        rintro w5 ⟨v_r, v_o, v_p, v_t, v_l, bw⟩
        have sz := bw.size
        refine (HM.out _ ((HR.out.below bw).more bw.size)).mono ?_
        rintro e w6 ⟨rfl, hb⟩
        replace v_r := v_r.below hb v_r.lt
        replace v_o := v_o.below hb v_o.lt
        replace v_p := v_p.below hb v_p.lt
        replace v_t := v_t.below hb v_t.lt
        replace v_l := v_l.below hb v_l.lt
        replace bw := bw.trans (hb.mono bw.size)
        replace sz := bw.size
        clear hb
        have q_r := v_r.cells
        have z_r := v_r.froz
        have l_r := v_r.lt
        have q_o := v_o.cells
        have z_o := v_o.froz
        have l_o := v_o.lt
        have q_p := v_p.cells
        have z_p := v_p.froz
        have l_p := v_p.lt
        have q_t := v_t.cells
        have z_t := v_t.froz
        have l_t := v_t.lt
        have q_l := v_l.cells
        have z_l := v_l.froz
        have l_l := v_l.lt
        have d_r_q := v_r.lt
        have d_o_q := v_o.lt
        have d_p_q := v_p.lt
        have d_t_q := v_t.lt
        have d_l_q := v_l.lt
        (try dsimp only)
        repeat (first | go_values | go_skip | go_guarded | go_step | go_upon)
        refine bodyPost_ret (v := .tuple #[.agg #[.slice A n c, .int .i64 (s3.at_ : Int), .int .i64 s3.err], .agg #[.int .i64 0, .int .i64 0, .bool false]]) (by simp [results, Try.results29, go_sem, q_r, l_r, q_o, l_o, q_p, l_p, q_t, l_t, q_l, l_l]) rfl ?_
        exact ⟨rfl, by go_grown⟩
    · rw [if_neg hx1]
      have g5 : (x == 1) = false := by simpa using hx1
      clear hx1
      by_cases h3 : s2.err = 0
      · have k1 : (s2.err == 0) = true := by simpa using h3
        have k2 : (s2.err != 0) = false := by simpa using h3
        rw [if_pos h3]
        clear h3
        go_enter Try.func29, Try.ntmps29
        go_wp2_with fail
        refine at_world (F := fun w' => Var w' (w.heap.size) #[.slice A n c, .int .i64 (s.at_ : Int), .int .i64 s.err] 35 ∧ Var w' (w.heap.size + 1) #[.slice none 0 0, .int .i64 0, .int .i64 0] 35 ∧ Var w' (w.heap.size + 2) #[.int .i64 0, .int .i64 0, .bool false] 52 ∧ Below w.heap.size w w') ⟨((Var.new w _ _).alloc _).alloc _, (Var.new2 w _ _ _).alloc _, Var.new3 w _ _ _ _, by go_grown⟩ ?_
        rintro w1 ⟨v_r, v_o, v_p, bw⟩
        have sz := bw.size
        refine (HC.out _ ((HR.out.below bw).more bw.size)).mono ?_
        rintro e w2 ⟨rfl, hb⟩
        replace v_r := v_r.below hb v_r.lt
        replace v_o := v_o.below hb v_o.lt
        replace v_p := v_p.below hb v_p.lt
        replace bw := bw.trans (hb.mono bw.size)
        replace sz := bw.size
        clear hb
        have q_r := v_r.cells
        have z_r := v_r.froz
        have l_r := v_r.lt
        have q_o := v_o.cells
        have z_o := v_o.froz
        have l_o := v_o.lt
        have q_p := v_p.cells
        have z_p := v_p.froz
        have l_p := v_p.lt
        have d_r_t := v_r.lt
        have d_o_t := v_o.lt
        have d_p_t := v_p.lt
        have d_r_l := v_r.lt
        have d_o_l := v_o.lt
        have d_p_l := v_p.lt
        go_wp2_with fail
        refine at_world (F := fun w' => Var w' (w.heap.size) #[.slice A n c, .int .i64 (s.at_ : Int), .int .i64 s.err] 35 ∧ Var w' (w.heap.size + 1) #[.slice none 0 0, .int .i64 0, .int .i64 0] 35 ∧ Var w' (w.heap.size + 2) #[.int .i64 0, .int .i64 0, .bool false] 52 ∧ Var w' (w2.heap.size) #[.slice A n c, .int .i64 (s1.at_ : Int), .int .i64 s1.err] 35 ∧ Var w' (w2.heap.size + 1) #[.int .i64 0, .int .i64 0, .bool false] 52 ∧ Below w.heap.size w w') ⟨((v_r).alloc _).alloc _, ((v_o).alloc _).alloc _, ((v_p).alloc _).alloc _, (Var.newE _ _ _ (by simp)).alloc _, Var.newE2 _ _ _ _ (by simp), by go_grown⟩ ?_
        clear q_r z_r l_r q_o z_o l_o q_p z_p l_p v_r v_o v_p bw sz
        rintro w3 ⟨v_r, v_o, v_p, v_t, v_l, bw⟩
        have sz := bw.size
        rw [HS1.out]
        refine (HN.out _ ((HR.out.below bw).more bw.size)).mono ?_
        rintro e w4 ⟨rfl, hb⟩
        replace v_r := v_r.below hb v_r.lt
        replace v_o := v_o.below hb v_o.lt
        replace v_p := v_p.below hb v_p.lt
        replace v_t := v_t.below hb v_t.lt
        replace v_l := v_l.below hb v_l.lt
        replace bw := bw.trans (hb.mono bw.size)
        replace sz := bw.size
        clear hb
        have q_r := v_r.cells
        have z_r := v_r.froz
        have l_r := v_r.lt
        have q_o := v_o.cells
        have z_o := v_o.froz
        have l_o := v_o.lt
        have q_p := v_p.cells
        have z_p := v_p.froz
        have l_p := v_p.lt
        have q_t := v_t.cells
        have z_t := v_t.froz
        have l_t := v_t.lt
        have q_l := v_l.cells
        have z_l := v_l.froz
        have l_l := v_l.lt
        (try dsimp only)
        repeat (first | go_values | go_skip | go_guarded | go_step | go_upon)
        go_region
        all_goals
          (try dsimp only)
          repeat (first | go_values | go_skip | go_guarded | go_step | go_upon)
          refine bodyPost_ret (v := .tuple #[.agg #[.slice A n c, .int .i64 (s2.at_ : Int), .int .i64 s2.err], .agg #[.int .i64 m1, .int .i64 0, .bool false]]) (by simp [results, Try.results29, go_sem, q_r, l_r, q_o, l_o, q_p, l_p, q_t, l_t, q_l, l_l]) rfl ?_
          exact ⟨rfl, by go_grown⟩
      · have k1 : (s2.err == 0) = false := by simpa using h3
        have k2 : (s2.err != 0) = true := by simpa using h3
        rw [if_neg h3]
        clear h3
        go_enter Try.func29, Try.ntmps29
        go_wp2_with fail
        refine at_world (F := fun w' => Var w' (w.heap.size) #[.slice A n c, .int .i64 (s.at_ : Int), .int .i64 s.err] 35 ∧ Var w' (w.heap.size + 1) #[.slice none 0 0, .int .i64 0, .int .i64 0] 35 ∧ Var w' (w.heap.size + 2) #[.int .i64 0, .int .i64 0, .bool false] 52 ∧ Below w.heap.size w w') ⟨((Var.new w _ _).alloc _).alloc _, (Var.new2 w _ _ _).alloc _, Var.new3 w _ _ _ _, by go_grown⟩ ?_
        rintro w1 ⟨v_r, v_o, v_p, bw⟩
        have sz := bw.size
        refine (HC.out _ ((HR.out.below bw).more bw.size)).mono ?_
        rintro e w2 ⟨rfl, hb⟩
        replace v_r := v_r.below hb v_r.lt
        replace v_o := v_o.below hb v_o.lt
        replace v_p := v_p.below hb v_p.lt
        replace bw := bw.trans (hb.mono bw.size)
        replace sz := bw.size
        clear hb
        have q_r := v_r.cells
        have z_r := v_r.froz
        have l_r := v_r.lt
        have q_o := v_o.cells
        have z_o := v_o.froz
        have l_o := v_o.lt
        have q_p := v_p.cells
        have z_p := v_p.froz
        have l_p := v_p.lt
        have d_r_t := v_r.lt
        have d_o_t := v_o.lt
        have d_p_t := v_p.lt
        have d_r_l := v_r.lt
        have d_o_l := v_o.lt
        have d_p_l := v_p.lt
        go_wp2_with fail
        refine at_world (F := fun w' => Var w' (w.heap.size) #[.slice A n c, .int .i64 (s.at_ : Int), .int .i64 s.err] 35 ∧ Var w' (w.heap.size + 1) #[.slice none 0 0, .int .i64 0, .int .i64 0] 35 ∧ Var w' (w.heap.size + 2) #[.int .i64 0, .int .i64 0, .bool false] 52 ∧ Var w' (w2.heap.size) #[.slice A n c, .int .i64 (s1.at_ : Int), .int .i64 s1.err] 35 ∧ Var w' (w2.heap.size + 1) #[.int .i64 0, .int .i64 0, .bool false] 52 ∧ Below w.heap.size w w') ⟨((v_r).alloc _).alloc _, ((v_o).alloc _).alloc _, ((v_p).alloc _).alloc _, (Var.newE _ _ _ (by simp)).alloc _, Var.newE2 _ _ _ _ (by simp), by go_grown⟩ ?_
        clear q_r z_r l_r q_o z_o l_o q_p z_p l_p v_r v_o v_p bw sz
        rintro w3 ⟨v_r, v_o, v_p, v_t, v_l, bw⟩
        have sz := bw.size
        rw [HS1.out]
        refine (HN.out _ ((HR.out.below bw).more bw.size)).mono ?_
        rintro e w4 ⟨rfl, hb⟩
        replace v_r := v_r.below hb v_r.lt
        replace v_o := v_o.below hb v_o.lt
        replace v_p := v_p.below hb v_p.lt
        replace v_t := v_t.below hb v_t.lt
        replace v_l := v_l.below hb v_l.lt
        replace bw := bw.trans (hb.mono bw.size)
        replace sz := bw.size
        clear hb
        have q_r := v_r.cells
        have z_r := v_r.froz
        have l_r := v_r.lt
        have q_o := v_o.cells
        have z_o := v_o.froz
        have l_o := v_o.lt
        have q_p := v_p.cells
        have z_p := v_p.froz
        have l_p := v_p.lt
        have q_t := v_t.cells
        have z_t := v_t.froz
        have l_t := v_t.lt
        have q_l := v_l.cells
        have z_l := v_l.froz
        have l_l := v_l.lt
        (try dsimp only)
        repeat (first | go_values | go_skip | go_guarded | go_step | go_upon)
        refine bodyPost_ret (v := .tuple #[.agg #[.slice A n c, .int .i64 (s2.at_ : Int), .int .i64 s2.err], .agg #[.int .i64 0, .int .i64 0, .bool false]]) (by simp [results, Try.results29, go_sem, q_r, l_r, q_o, l_o, q_p, l_p, q_t, l_t, q_l, l_l]) rfl ?_
        exact ⟨rfl, by go_grown⟩

set_option maxHeartbeats 8000000 in
set_option maxRecDepth 100000 in
theorem refGetTable_any (A : Option Addr) (n c : Nat) (b : List UInt8) (s : Oct.St) (w : World) (hn : b.length = n) (hr : RdB w w.heap.size A b) (hle : s.at_ ≤ n) (hc : n ≤ c) (hb6 : n ≤ 1000000) :
    Calls Try.prog 30 #[.agg #[.slice A n c, .int .i64 (s.at_ : Int), .int .i64 s.err]] w (RTab A n c (Oct.getTable b s) w) := by
  have HC := Lib.hid (fun w hr => refGetVal_any A n c b s w hn hr hle hc hb6)
  have HR := Lib.hid hr
  have h1t := Oct.getVal_at (b := b) (s := s) (by omega)
  unfold Oct.getTable
  dsimp only
  obtain ⟨⟨s1, t⟩, hy⟩ : ∃ y, Oct.getVal b s = y := ⟨_, rfl⟩
  rw [hy] at HC h1t ⊢
  dsimp only at h1t ⊢
  clear hy hr
  obtain ⟨s1', hs1'⟩ : ∃ s1', Oct.must s1 (Ty.ref t) 12 = s1' := ⟨_, rfl⟩
  have h2t : s1'.at_ ≤ b.length := by rw [← hs1', Oct.must_at]; exact h1t
  rw [hs1']
  have HN := Lib.hid (fun w hr => refGetLim_any A n c b s1' w hn hr (by omega) hc hb6)
  have HRR := Lib.hid (fun w => refRef_any t w)
  have HF12 := Lib.hid (fun w => refFail_any A n c s1 12 w)
  obtain ⟨⟨s2, ⟨mn, mx, has⟩⟩, hy⟩ : ∃ y, Oct.getLim b s1' = y := ⟨_, rfl⟩
  rw [hy] at HN ⊢
  dsimp only
  have HF : (s1.err = 0 ∧ Ty.ref t = true ∧ s1' = s1) ∨ (s1.err = 0 ∧ Ty.ref t = false ∧ s1' = s1.fail 12) ∨ (¬ s1.err = 0 ∧ s1' = s1) := by
    by_cases h1 : s1.err = 0
    · rcases h2 : Ty.ref t with _ | _
      · exact .inr (.inl ⟨h1, rfl, by rw [← hs1', h2, must_yes h1]⟩)
      · exact .inl ⟨h1, rfl, by rw [← hs1', h2, must_no (by simp)]⟩
    · exact .inr (.inr ⟨h1, by rw [← hs1', must_no (fun hh => h1 hh.1)]⟩)
  clear hs1' h1t h2t hy
  rcases HF with ⟨h1, h2, hs⟩ | ⟨h1, h2, hs⟩ | ⟨h1, hs⟩
  · have g2 : (s1.err == 0) = true := by simpa using h1
    have HS1 : Hid (s1 = s1') := hs.symm
    rw [h2] at HRR
    clear hs h1 h2
    by_cases h3 : s2.err = 0
    · have k2 : (s2.err != 0) = false := by simpa using h3
      rw [if_pos h3]
      clear h3
      go_enter Try.func30, Try.ntmps30
      go_wp2_with fail
      refine at_world (F := fun w' => Var w' (w.heap.size) #[.slice A n c, .int .i64 (s.at_ : Int), .int .i64 s.err] 35 ∧ Var w' (w.heap.size + 1) #[.slice none 0 0, .int .i64 0, .int .i64 0] 35 ∧ Var w' (w.heap.size + 2) #[.int .i64 0, .int .i64 0, .int .i64 0, .bool false] 54 ∧ Below w.heap.size w w') ⟨((Var.new w _ _).alloc _).alloc _, (Var.new2 w _ _ _).alloc _, Var.new3 w _ _ _ _, by go_grown⟩ ?_
      rintro w1 ⟨v_r, v_o, v_p, bw⟩
      have sz := bw.size
      refine (HC.out _ ((HR.out.below bw).more bw.size)).mono ?_
      rintro e w2 ⟨rfl, hb⟩
      replace v_r := v_r.below hb v_r.lt
      replace v_o := v_o.below hb v_o.lt
      replace v_p := v_p.below hb v_p.lt
      replace bw := bw.trans (hb.mono bw.size)
      replace sz := bw.size
      clear hb
      have q_r := v_r.cells
      have z_r := v_r.froz
      have l_r := v_r.lt
      have q_o := v_o.cells
      have z_o := v_o.froz
      have l_o := v_o.lt
      have q_p := v_p.cells
      have z_p := v_p.froz
      have l_p := v_p.lt
      have d_r_t := v_r.lt
      have d_o_t := v_o.lt
      have d_p_t := v_p.lt
      go_wp2_with fail
      refine at_world (F := fun w' => Var w' (w.heap.size) #[.slice A n c, .int .i64 (s.at_ : Int), .int .i64 s.err] 35 ∧ Var w' (w.heap.size + 1) #[.slice none 0 0, .int .i64 0, .int .i64 0] 35 ∧ Var w' (w.heap.size + 2) #[.int .i64 0, .int .i64 0, .int .i64 0, .bool false] 54 ∧ Var w' (w2.heap.size) #[.slice A n c, .int .i64 (s1.at_ : Int), .int .i64 s1.err] 35 ∧ Below w.heap.size w w') ⟨(v_r).alloc _, (v_o).alloc _, (v_p).alloc _, Var.newE _ _ _ (by simp), by go_grown⟩ ?_
      clear q_r z_r l_r q_o z_o l_o q_p z_p l_p v_r v_o v_p bw sz
      rintro w3 ⟨v_r, v_o, v_p, v_t, bw⟩
      have sz := bw.size
      refine (HRR.out _).mono ?_
      rintro e wq ⟨rfl, rfl⟩
      have q_r := v_r.cells
      have z_r := v_r.froz
      have l_r := v_r.lt
      have q_o := v_o.cells
      have z_o := v_o.froz
      have l_o := v_o.lt
      have q_p := v_p.cells
      have z_p := v_p.froz
      have l_p := v_p.lt
      have q_t := v_t.cells
      have z_t := v_t.froz
      have l_t := v_t.lt
      go_wp2_with fail
      refine at_world (F := fun w' => Var w' (w.heap.size) #[.slice A n c, .int .i64 (s.at_ : Int), .int .i64 s.err] 35 ∧ Var w' (w.heap.size + 1) #[.slice none 0 0, .int .i64 0, .int .i64 0] 35 ∧ Var w' (w.heap.size + 2) #[.int .i64 0, .int .i64 0, .int .i64 0, .bool false] 54 ∧ Var w' (w2.heap.size) #[.slice A n c, .int .i64 (s1.at_ : Int), .int .i64 s1.err] 35 ∧ Below w.heap.size w w') ⟨v_r, v_o, v_p, v_t, by go_grown⟩ ?_
      clear q_r z_r l_r q_o z_o l_o q_p z_p l_p q_t z_t l_t v_r v_o v_p v_t bw sz
      rintro w4 ⟨v_r, v_o, v_p, v_t, bw⟩
      have sz := bw.size
      rw [HS1.out]
      refine (HN.out _ ((HR.out.below bw).more bw.size)).mono ?_
      rintro e w5 ⟨rfl, hb⟩
      replace v_r := v_r.below hb v_r.lt
      replace v_o := v_o.below hb v_o.lt
      replace v_p := v_p.below hb v_p.lt
      replace v_t := v_t.below hb v_t.lt
      replace bw := bw.trans (hb.mono bw.size)
      replace sz := bw.size
      clear hb
      have q_r := v_r.cells
      have z_r := v_r.froz
      have l_r := v_r.lt
      have q_o := v_o.cells
      have z_o := v_o.froz
      have l_o := v_o.lt
      have q_p := v_p.cells
      have z_p := v_p.froz
      have l_p := v_p.lt
      have q_t := v_t.cells
      have z_t := v_t.froz
      have l_t := v_t.lt
      have d_r_l := v_r.lt
      have d_o_l := v_o.lt
      have d_p_l := v_p.lt
      have d_t_l := v_t.lt
      (try dsimp only)
      repeat (first | go_values | go_skip | go_guarded | go_step | go_upon)
      go_region
      all_goals
        (try dsimp only)
        repeat (first | go_values | go_skip | go_guarded | go_step | go_upon)
        refine bodyPost_ret (v := .tuple #[.agg #[.slice A n c, .int .i64 (s2.at_ : Int), .int .i64 s2.err], .agg #[.int .i64 t, .int .i64 mn, .int .i64 mx, .bool has]]) (by simp [results, Try.results30, go_sem, q_r, l_r, q_o, l_o, q_p, l_p, q_t, l_t]) rfl ?_
        exact ⟨rfl, by go_grown⟩
    · have k2 : (s2.err != 0) = true := by simpa using h3
      rw [if_neg h3]
      clear h3
      go_enter Try.func30, Try.ntmps30
      go_wp2_with fail
      refine at_world (F := fun w' => Var w' (w.heap.size) #[.slice A n c, .int .i64 (s.at_ : Int), .int .i64 s.err] 35 ∧ Var w' (w.heap.size + 1) #[.slice none 0 0, .int .i64 0, .int .i64 0] 35 ∧ Var w' (w.heap.size + 2) #[.int .i64 0, .int .i64 0, .int .i64 0, .bool false] 54 ∧ Below w.heap.size w w') ⟨((Var.new w _ _).alloc _).alloc _, (Var.new2 w _ _ _).alloc _, Var.new3 w _ _ _ _, by go_grown⟩ ?_
      rintro w1 ⟨v_r, v_o, v_p, bw⟩
      have sz := bw.size
      refine (HC.out _ ((HR.out.below bw).more bw.size)).mono ?_
      rintro e w2 ⟨rfl, hb⟩
      replace v_r := v_r.below hb v_r.lt
      replace v_o := v_o.below hb v_o.lt
      replace v_p := v_p.below hb v_p.lt
      replace bw := bw.trans (hb.mono bw.size)
      replace sz := bw.size
      clear hb
      have q_r := v_r.cells
      have z_r := v_r.froz
      have l_r := v_r.lt
      have q_o := v_o.cells
      have z_o := v_o.froz
      have l_o := v_o.lt
      have q_p := v_p.cells
      have z_p := v_p.froz
      have l_p := v_p.lt
      have d_r_t := v_r.lt
      have d_o_t := v_o.lt
      have d_p_t := v_p.lt
      go_wp2_with fail
      refine at_world (F := fun w' => Var w' (w.heap.size) #[.slice A n c, .int .i64 (s.at_ : Int), .int .i64 s.err] 35 ∧ Var w' (w.heap.size + 1) #[.slice none 0 0, .int .i64 0, .int .i64 0] 35 ∧ Var w' (w.heap.size + 2) #[.int .i64 0, .int .i64 0, .int .i64 0, .bool false] 54 ∧ Var w' (w2.heap.size) #[.slice A n c, .int .i64 (s1.at_ : Int), .int .i64 s1.err] 35 ∧ Below w.heap.size w w') ⟨(v_r).alloc _, (v_o).alloc _, (v_p).alloc _, Var.newE _ _ _ (by simp), by go_grown⟩ ?_
      clear q_r z_r l_r q_o z_o l_o q_p z_p l_p v_r v_o v_p bw sz
      rintro w3 ⟨v_r, v_o, v_p, v_t, bw⟩
      have sz := bw.size
      refine (HRR.out _).mono ?_
      rintro e wq ⟨rfl, rfl⟩
      have q_r := v_r.cells
      have z_r := v_r.froz
      have l_r := v_r.lt
      have q_o := v_o.cells
      have z_o := v_o.froz
      have l_o := v_o.lt
      have q_p := v_p.cells
      have z_p := v_p.froz
      have l_p := v_p.lt
      have q_t := v_t.cells
      have z_t := v_t.froz
      have l_t := v_t.lt
      go_wp2_with fail
      refine at_world (F := fun w' => Var w' (w.heap.size) #[.slice A n c, .int .i64 (s.at_ : Int), .int .i64 s.err] 35 ∧ Var w' (w.heap.size + 1) #[.slice none 0 0, .int .i64 0, .int .i64 0] 35 ∧ Var w' (w.heap.size + 2) #[.int .i64 0, .int .i64 0, .int .i64 0, .bool false] 54 ∧ Var w' (w2.heap.size) #[.slice A n c, .int .i64 (s1.at_ : Int), .int .i64 s1.err] 35 ∧ Below w.heap.size w w') ⟨v_r, v_o, v_p, v_t, by go_grown⟩ ?_
      clear q_r z_r l_r q_o z_o l_o q_p z_p l_p q_t z_t l_t v_r v_o v_p v_t bw sz
      rintro w4 ⟨v_r, v_o, v_p, v_t, bw⟩
      have sz := bw.size
      rw [HS1.out]
      refine (HN.out _ ((HR.out.below bw).more bw.size)).mono ?_
      rintro e w5 ⟨rfl, hb⟩
      replace v_r := v_r.below hb v_r.lt
      replace v_o := v_o.below hb v_o.lt
      replace v_p := v_p.below hb v_p.lt
      replace v_t := v_t.below hb v_t.lt
      replace bw := bw.trans (hb.mono bw.size)
      replace sz := bw.size
      clear hb
      have q_r := v_r.cells
      have z_r := v_r.froz
      have l_r := v_r.lt
      have q_o := v_o.cells
      have z_o := v_o.froz
      have l_o := v_o.lt
      have q_p := v_p.cells
      have z_p := v_p.froz
      have l_p := v_p.lt
      have q_t := v_t.cells
      have z_t := v_t.froz
      have l_t := v_t.lt
      have d_r_l := v_r.lt
      have d_o_l := v_o.lt
      have d_p_l := v_p.lt
      have d_t_l := v_t.lt
      (try dsimp only)
      repeat (first | go_values | go_skip | go_guarded | go_step | go_upon)
      refine bodyPost_ret (v := .tuple #[.agg #[.slice A n c, .int .i64 (s2.at_ : Int), .int .i64 s2.err], .agg #[.int .i64 0, .int .i64 0, .int .i64 0, .bool false]]) (by simp [results, Try.results30, go_sem, q_r, l_r, q_o, l_o, q_p, l_p, q_t, l_t]) rfl ?_
      exact ⟨rfl, by go_grown⟩
  · have g2 : (s1.err == 0) = true := by simpa using h1
    have HS1 : Hid (s1.fail 12 = s1') := hs.symm
    rw [h2] at HRR
    clear hs h1 h2
    by_cases h3 : s2.err = 0
    · have k2 : (s2.err != 0) = false := by simpa using h3
      rw [if_pos h3]
      clear h3
      go_enter Try.func30, Try.ntmps30
      go_wp2_with fail
      refine at_world (F := fun w' => Var w' (w.heap.size) #[.slice A n c, .int .i64 (s.at_ : Int), .int .i64 s.err] 35 ∧ Var w' (w.heap.size + 1) #[.slice none 0 0, .int .i64 0, .int .i64 0] 35 ∧ Var w' (w.heap.size + 2) #[.int .i64 0, .int .i64 0, .int .i64 0, .bool false] 54 ∧ Below w.heap.size w w') ⟨((Var.new w _ _).alloc _).alloc _, (Var.new2 w _ _ _).alloc _, Var.new3 w _ _ _ _, by go_grown⟩ ?_
      rintro w1 ⟨v_r, v_o, v_p, bw⟩
      have sz := bw.size
      refine (HC.out _ ((HR.out.below bw).more bw.size)).mono ?_
      rintro e w2 ⟨rfl, hb⟩
      replace v_r := v_r.below hb v_r.lt
      replace v_o := v_o.below hb v_o.lt
      replace v_p := v_p.below hb v_p.lt
      replace bw := bw.trans (hb.mono bw.size)
      replace sz := bw.size
      clear hb
      have q_r := v_r.cells
      have z_r := v_r.froz
      have l_r := v_r.lt
      have q_o := v_o.cells
      have z_o := v_o.froz
      have l_o := v_o.lt
      have q_p := v_p.cells
      have z_p := v_p.froz
      have l_p := v_p.lt
      have d_r_t := v_r.lt
      have d_o_t := v_o.lt
      have d_p_t := v_p.lt
      go_wp2_with fail
      refine at_world (F := fun w' => Var w' (w.heap.size) #[.slice A n c, .int .i64 (s.at_ : Int), .int .i64 s.err] 35 ∧ Var w' (w.heap.size + 1) #[.slice none 0 0, .int .i64 0, .int .i64 0] 35 ∧ Var w' (w.heap.size + 2) #[.int .i64 0, .int .i64 0, .int .i64 0, .bool false] 54 ∧ Var w' (w2.heap.size) #[.slice A n c, .int .i64 (s1.at_ : Int), .int .i64 s1.err] 35 ∧ Below w.heap.size w w') ⟨(v_r).alloc _, (v_o).alloc _, (v_p).alloc _, Var.newE _ _ _ (by simp), by go_grown⟩ ?_
      clear q_r z_r l_r q_o z_o l_o q_p z_p l_p v_r v_o v_p bw sz
      rintro w3 ⟨v_r, v_o, v_p, v_t, bw⟩
      have sz := bw.size
      refine (HRR.out _).mono ?_
      rintro e wq ⟨rfl, rfl⟩
      have q_r := v_r.cells
      have z_r := v_r.froz
      have l_r := v_r.lt
      have q_o := v_o.cells
      have z_o := v_o.froz
      have l_o := v_o.lt
      have q_p := v_p.cells
      have z_p := v_p.froz
      have l_p := v_p.lt
      have q_t := v_t.cells
      have z_t := v_t.froz
      have l_t := v_t.lt
      go_wp2_with fail
      refine at_world (F := fun w' => Var w' (w.heap.size) #[.slice A n c, .int .i64 (s.at_ : Int), .int .i64 s.err] 35 ∧ Var w' (w.heap.size + 1) #[.slice none 0 0, .int .i64 0, .int .i64 0] 35 ∧ Var w' (w.heap.size + 2) #[.int .i64 0, .int .i64 0, .int .i64 0, .bool false] 54 ∧ Var w' (w2.heap.size) #[.slice A n c, .int .i64 (s1.at_ : Int), .int .i64 s1.err] 35 ∧ Below w.heap.size w w') ⟨v_r, v_o, v_p, v_t, by go_grown⟩ ?_
      clear q_r z_r l_r q_o z_o l_o q_p z_p l_p q_t z_t l_t v_r v_o v_p v_t bw sz
      rintro w4 ⟨v_r, v_o, v_p, v_t, bw⟩
      have sz := bw.size
      refine (HF12.out _).mono ?_
      rintro e w5 ⟨rfl, hb⟩
      replace v_r := v_r.below hb v_r.lt
      replace v_o := v_o.below hb v_o.lt
      replace v_p := v_p.below hb v_p.lt
      replace v_t := v_t.below hb v_t.lt
      replace bw := bw.trans (hb.mono bw.size)
      replace sz := bw.size
      clear hb
      have q_r := v_r.cells
      have z_r := v_r.froz
      have l_r := v_r.lt
      have q_o := v_o.cells
      have z_o := v_o.froz
      have l_o := v_o.lt
      have q_p := v_p.cells
      have z_p := v_p.froz
      have l_p := v_p.lt
      have q_t := v_t.cells
      have z_t := v_t.froz
      have l_t := v_t.lt
      rw [HS1.out]
      go_wp2_with fail
      refine at_world (F := fun w' => Var w' (w.heap.size) #[.slice A n c, .int .i64 (s.at_ : Int), .int .i64 s.err] 35 ∧ Var w' (w.heap.size + 1) #[.slice none 0 0, .int .i64 0, .int .i64 0] 35 ∧ Var w' (w.heap.size + 2) #[.int .i64 0, .int .i64 0, .int .i64 0, .bool false] 54 ∧ Var w' (w2.heap.size) #[.slice A n c, .int .i64 (s1'.at_ : Int), .int .i64 s1'.err] 35 ∧ Below w.heap.size w w') ⟨(((v_r).other (by omega) 0 _).other (by omega) 1 _).other (by omega) 2 _, (((v_o).other (by omega) 0 _).other (by omega) 1 _).other (by omega) 2 _, (((v_p).other (by omega) 0 _).other (by omega) 1 _).other (by omega) 2 _, (((v_t).set 0 _).set 1 _).set 2 _, by go_grown⟩ ?_
      clear q_r z_r l_r q_o z_o l_o q_p z_p l_p q_t z_t l_t v_r v_o v_p v_t bw sz
      rintro w6 ⟨v_r, v_o, v_p, v_t, bw⟩
      have sz := bw.size
      refine (HN.out _ ((HR.out.below bw).more bw.size)).mono ?_
      rintro e w7 ⟨rfl, hb⟩
      replace v_r := v_r.below hb v_r.lt
      replace v_o := v_o.below hb v_o.lt
      replace v_p := v_p.below hb v_p.lt
      replace v_t := v_t.below hb v_t.lt
      replace bw := bw.trans (hb.mono bw.size)
      replace sz := bw.size
      clear hb
      have q_r := v_r.cells
      have z_r := v_r.froz
      have l_r := v_r.lt
      have q_o := v_o.cells
      have z_o := v_o.froz
      have l_o := v_o.lt
      have q_p := v_p.cells
      have z_p := v_p.froz
      have l_p := v_p.lt
      have q_t := v_t.cells
      have z_t := v_t.froz
      have l_t := v_t.lt
      have d_r_l := v_r.lt
      have d_o_l := v_o.lt
      have d_p_l := v_p.lt
      have d_t_l := v_t.lt
      (try dsimp only)
      repeat (first | go_values | go_skip | go_guarded | go_step | go_upon)
      go_region
      all_goals
        (try dsimp only)
        repeat (first | go_values | go_skip | go_guarded | go_step | go_upon)
        refine bodyPost_ret (v := .tuple #[.agg #[.slice A n c, .int .i64 (s2.at_ : Int), .int .i64 s2.err], .agg #[.int .i64 t, .int .i64 mn, .int .i64 mx, .bool has]]) (by simp [results, Try.results30, go_sem, q_r, l_r, q_o, l_o, q_p, l_p, q_t, l_t]) rfl ?_
        exact ⟨rfl, by go_grown⟩
    · have k2 : (s2.err != 0) = true := by simpa using h3
      rw [if_neg h3]
      clear h3
      go_enter Try.func30, Try.ntmps30
      go_wp2_with fail
      refine at_world (F := fun w' => Var w' (w.heap.size) #[.slice A n c, .int .i64 (s.at_ : Int), .int .i64 s.err] 35 ∧ Var w' (w.heap.size + 1) #[.slice none 0 0, .int .i64 0, .int .i64 0] 35 ∧ Var w' (w.heap.size + 2) #[.int .i64 0, .int .i64 0, .int .i64 0, .bool false] 54 ∧ Below w.heap.size w w') ⟨((Var.new w _ _).alloc _).alloc _, (Var.new2 w _ _ _).alloc _, Var.new3 w _ _ _ _, by go_grown⟩ ?_
      rintro w1 ⟨v_r, v_o, v_p, bw⟩
      have sz := bw.size
      refine (HC.out _ ((HR.out.below bw).more bw.size)).mono ?_
      rintro e w2 ⟨rfl, hb⟩
      replace v_r := v_r.below hb v_r.lt
      replace v_o := v_o.below hb v_o.lt
      replace v_p := v_p.below hb v_p.lt
      replace bw := bw.trans (hb.mono bw.size)
      replace sz := bw.size
      clear hb
      have q_r := v_r.cells
      have z_r := v_r.froz
      have l_r := v_r.lt
      have q_o := v_o.cells
      have z_o := v_o.froz
      have l_o := v_o.lt
      have q_p := v_p.cells
      have z_p := v_p.froz
      have l_p := v_p.lt
      have d_r_t := v_r.lt
      have d_o_t := v_o.lt
      have d_p_t := v_p.lt
      go_wp2_with fail
      refine at_world (F := fun w' => Var w' (w.heap.size) #[.slice A n c, .int .i64 (s.at_ : Int), .int .i64 s.err] 35 ∧ Var w' (w.heap.size + 1) #[.slice none 0 0, .int .i64 0, .int .i64 0] 35 ∧ Var w' (w.heap.size + 2) #[.int .i64 0, .int .i64 0, .int .i64 0, .bool false] 54 ∧ Var w' (w2.heap.size) #[.slice A n c, .int .i64 (s1.at_ : Int), .int .i64 s1.err] 35 ∧ Below w.heap.size w w') ⟨(v_r).alloc _, (v_o).alloc _, (v_p).alloc _, Var.newE _ _ _ (by simp), by go_grown⟩ ?_
      clear q_r z_r l_r q_o z_o l_o q_p z_p l_p v_r v_o v_p bw sz
      rintro w3 ⟨v_r, v_o, v_p, v_t, bw⟩
      have sz := bw.size
      refine (HRR.out _).mono ?_
      rintro e wq ⟨rfl, rfl⟩
      have q_r := v_r.cells
      have z_r := v_r.froz
      have l_r := v_r.lt
      have q_o := v_o.cells
      have z_o := v_o.froz
      have l_o := v_o.lt
      have q_p := v_p.cells
      have z_p := v_p.froz
      have l_p := v_p.lt
      have q_t := v_t.cells
      have z_t := v_t.froz
      have l_t := v_t.lt
      go_wp2_with fail
      refine at_world (F := fun w' => Var w' (w.heap.size) #[.slice A n c, .int .i64 (s.at_ : Int), .int .i64 s.err] 35 ∧ Var w' (w.heap.size + 1) #[.slice none 0 0, .int .i64 0, .int .i64 0] 35 ∧ Var w' (w.heap.size + 2) #[.int .i64 0, .int .i64 0, .int .i64 0, .bool false] 54 ∧ Var w' (w2.heap.size) #[.slice A n c, .int .i64 (s1.at_ : Int), .int .i64 s1.err] 35 ∧ Below w.heap.size w w') ⟨v_r, v_o, v_p, v_t, by go_grown⟩ ?_
      clear q_r z_r l_r q_o z_o l_o q_p z_p l_p q_t z_t l_t v_r v_o v_p v_t bw sz
      rintro w4 ⟨v_r, v_o, v_p, v_t, bw⟩
      have sz := bw.size
      refine (HF12.out _).mono ?_
      rintro e w5 ⟨rfl, hb⟩
      replace v_r := v_r.below hb v_r.lt
      replace v_o := v_o.below hb v_o.lt
      replace v_p := v_p.below hb v_p.lt
      replace v_t := v_t.below hb v_t.lt
      replace bw := bw.trans (hb.mono bw.size)
      replace sz := bw.size
      clear hb
      have q_r := v_r.cells
      have z_r := v_r.froz
      have l_r := v_r.lt
      have q_o := v_o.cells
      have z_o := v_o.froz
      have l_o := v_o.lt
      have q_p := v_p.cells
      have z_p := v_p.froz
      have l_p := v_p.lt
      have q_t := v_t.cells
      have z_t := v_t.froz
      have l_t := v_t.lt
      rw [HS1.out]
      go_wp2_with fail
      refine at_world (F := fun w' => Var w' (w.heap.size) #[.slice A n c, .int .i64 (s.at_ : Int), .int .i64 s.err] 35 ∧ Var w' (w.heap.size + 1) #[.slice none 0 0, .int .i64 0, .int .i64 0] 35 ∧ Var w' (w.heap.size + 2) #[.int .i64 0, .int .i64 0, .int .i64 0, .bool false] 54 ∧ Var w' (w2.heap.size) #[.slice A n c, .int .i64 (s1'.at_ : Int), .int .i64 s1'.err] 35 ∧ Below w.heap.size w w') ⟨(((v_r).other (by omega) 0 _).other (by omega) 1 _).other (by omega) 2 _, (((v_o).other (by omega) 0 _).other (by omega) 1 _).other (by omega) 2 _, (((v_p).other (by omega) 0 _).other (by omega) 1 _).other (by omega) 2 _, (((v_t).set 0 _).set 1 _).set 2 _, by go_grown⟩ ?_
      clear q_r z_r l_r q_o z_o l_o q_p z_p l_p q_t z_t l_t v_r v_o v_p v_t bw sz
      rintro w6 ⟨v_r, v_o, v_p, v_t, bw⟩
      have sz := bw.size
      refine (HN.out _ ((HR.out.below bw).more bw.size)).mono ?_
      rintro e w7 ⟨rfl, hb⟩
      replace v_r := v_r.below hb v_r.lt
      replace v_o := v_o.below hb v_o.lt
      replace v_p := v_p.below hb v_p.lt
      replace v_t := v_t.below hb v_t.lt
      replace bw := bw.trans (hb.mono bw.size)
      replace sz := bw.size
      clear hb
      have q_r := v_r.cells
      have z_r := v_r.froz
      have l_r := v_r.lt
      have q_o := v_o.cells
      have z_o := v_o.froz
      have l_o := v_o.lt
      have q_p := v_p.cells
      have z_p := v_p.froz
      have l_p := v_p.lt
      have q_t := v_t.cells
      have z_t := v_t.froz
      have l_t := v_t.lt
      have d_r_l := v_r.lt
      have d_o_l := v_o.lt
      have d_p_l := v_p.lt
      have d_t_l := v_t.lt
      (try dsimp only)
      repeat (first | go_values | go_skip | go_guarded | go_step | go_upon)
      refine bodyPost_ret (v := .tuple #[.agg #[.slice A n c, .int .i64 (s2.at_ : Int), .int .i64 s2.err], .agg #[.int .i64 0, .int .i64 0, .int .i64 0, .bool false]]) (by simp [results, Try.results30, go_sem, q_r, l_r, q_o, l_o, q_p, l_p, q_t, l_t]) rfl ?_
      exact ⟨rfl, by go_grown⟩
  · have g2 : (s1.err == 0) = false := by simpa using h1
    have HS1 : Hid (s1 = s1') := hs.symm
    clear hs h1
    by_cases h3 : s2.err = 0
    · have k2 : (s2.err != 0) = false := by simpa using h3
      rw [if_pos h3]
      clear h3
      go_enter Try.func30, Try.ntmps30
      go_wp2_with fail
      refine at_world (F := fun w' => Var w' (w.heap.size) #[.slice A n c, .int .i64 (s.at_ : Int), .int .i64 s.err] 35 ∧ Var w' (w.heap.size + 1) #[.slice none 0 0, .int .i64 0, .int .i64 0] 35 ∧ Var w' (w.heap.size + 2) #[.int .i64 0, .int .i64 0, .int .i64 0, .bool false] 54 ∧ Below w.heap.size w w') ⟨((Var.new w _ _).alloc _).alloc _, (Var.new2 w _ _ _).alloc _, Var.new3 w _ _ _ _, by go_grown⟩ ?_
      rintro w1 ⟨v_r, v_o, v_p, bw⟩
      have sz := bw.size
      refine (HC.out _ ((HR.out.below bw).more bw.size)).mono ?_
      rintro e w2 ⟨rfl, hb⟩
      replace v_r := v_r.below hb v_r.lt
      replace v_o := v_o.below hb v_o.lt
      replace v_p := v_p.below hb v_p.lt
      replace bw := bw.trans (hb.mono bw.size)
      replace sz := bw.size
      clear hb
      have q_r := v_r.cells
      have z_r := v_r.froz
      have l_r := v_r.lt
      have q_o := v_o.cells
      have z_o := v_o.froz
      have l_o := v_o.lt
      have q_p := v_p.cells
      have z_p := v_p.froz
      have l_p := v_p.lt
      have d_r_t := v_r.lt
      have d_o_t := v_o.lt
      have d_p_t := v_p.lt
      go_wp2_with fail
      refine at_world (F := fun w' => Var w' (w.heap.size) #[.slice A n c, .int .i64 (s.at_ : Int), .int .i64 s.err] 35 ∧ Var w' (w.heap.size + 1) #[.slice none 0 0, .int .i64 0, .int .i64 0] 35 ∧ Var w' (w.heap.size + 2) #[.int .i64 0, .int .i64 0, .int .i64 0, .bool false] 54 ∧ Var w' (w2.heap.size) #[.slice A n c, .int .i64 (s1.at_ : Int), .int .i64 s1.err] 35 ∧ Below w.heap.size w w') ⟨(v_r).alloc _, (v_o).alloc _, (v_p).alloc _, Var.newE _ _ _ (by simp), by go_grown⟩ ?_
      clear q_r z_r l_r q_o z_o l_o q_p z_p l_p v_r v_o v_p bw sz
      rintro w3 ⟨v_r, v_o, v_p, v_t, bw⟩
      have sz := bw.size
      rw [HS1.out]
      refine (HN.out _ ((HR.out.below bw).more bw.size)).mono ?_
      rintro e w4 ⟨rfl, hb⟩
      replace v_r := v_r.below hb v_r.lt
      replace v_o := v_o.below hb v_o.lt
      replace v_p := v_p.below hb v_p.lt
      replace v_t := v_t.below hb v_t.lt
      replace bw := bw.trans (hb.mono bw.size)
      replace sz := bw.size
      clear hb
      have q_r := v_r.cells
      have z_r := v_r.froz
      have l_r := v_r.lt
      have q_o := v_o.cells
      have z_o := v_o.froz
      have l_o := v_o.lt
      have q_p := v_p.cells
      have z_p := v_p.froz
      have l_p := v_p.lt
      have q_t := v_t.cells
      have z_t := v_t.froz
      have l_t := v_t.lt
      have d_r_l := v_r.lt
      have d_o_l := v_o.lt
      have d_p_l := v_p.lt
      have d_t_l := v_t.lt
      (try dsimp only)
      repeat (first | go_values | go_skip | go_guarded | go_step | go_upon)
      go_region
      all_goals
        (try dsimp only)
        repeat (first | go_values | go_skip | go_guarded | go_step | go_upon)
        refine bodyPost_ret (v := .tuple #[.agg #[.slice A n c, .int .i64 (s2.at_ : Int), .int .i64 s2.err], .agg #[.int .i64 t, .int .i64 mn, .int .i64 mx, .bool has]]) (by simp [results, Try.results30, go_sem, q_r, l_r, q_o, l_o, q_p, l_p, q_t, l_t]) rfl ?_
        exact ⟨rfl, by go_grown⟩
    · have k2 : (s2.err != 0) = true := by simpa using h3
      rw [if_neg h3]
      clear h3
      go_enter Try.func30, Try.ntmps30
      go_wp2_with fail
      refine at_world (F := fun w' => Var w' (w.heap.size) #[.slice A n c, .int .i64 (s.at_ : Int), .int .i64 s.err] 35 ∧ Var w' (w.heap.size + 1) #[.slice none 0 0, .int .i64 0, .int .i64 0] 35 ∧ Var w' (w.heap.size + 2) #[.int .i64 0, .int .i64 0, .int .i64 0, .bool false] 54 ∧ Below w.heap.size w w') ⟨((Var.new w _ _).alloc _).alloc _, (Var.new2 w _ _ _).alloc _, Var.new3 w _ _ _ _, by go_grown⟩ ?_
      rintro w1 ⟨v_r, v_o, v_p, bw⟩
      have sz := bw.size
      refine (HC.out _ ((HR.out.below bw).more bw.size)).mono ?_
      rintro e w2 ⟨rfl, hb⟩
      replace v_r := v_r.below hb v_r.lt
      replace v_o := v_o.below hb v_o.lt
      replace v_p := v_p.below hb v_p.lt
      replace bw := bw.trans (hb.mono bw.size)
      replace sz := bw.size
      clear hb
      have q_r := v_r.cells
      have z_r := v_r.froz
      have l_r := v_r.lt
      have q_o := v_o.cells
      have z_o := v_o.froz
      have l_o := v_o.lt
      have q_p := v_p.cells
      have z_p := v_p.froz
      have l_p := v_p.lt
      have d_r_t := v_r.lt
      have d_o_t := v_o.lt
      have d_p_t := v_p.lt
      go_wp2_with fail
      refine at_world (F := fun w' => Var w' (w.heap.size) #[.slice A n c, .int .i64 (s.at_ : Int), .int .i64 s.err] 35 ∧ Var w' (w.heap.size + 1) #[.slice none 0 0, .int .i64 0, .int .i64 0] 35 ∧ Var w' (w.heap.size + 2) #[.int .i64 0, .int .i64 0, .int .i64 0, .bool false] 54 ∧ Var w' (w2.heap.size) #[.slice A n c, .int .i64 (s1.at_ : Int), .int .i64 s1.err] 35 ∧ Below w.heap.size w w') ⟨(v_r).alloc _, (v_o).alloc _, (v_p).alloc _, Var.newE _ _ _ (by simp), by go_grown⟩ ?_
      clear q_r z_r l_r q_o z_o l_o q_p z_p l_p v_r v_o v_p bw sz
      rintro w3 ⟨v_r, v_o, v_p, v_t, bw⟩
      have sz := bw.size
      rw [HS1.out]
      refine (HN.out _ ((HR.out.below bw).more bw.size)).mono ?_
      rintro e w4 ⟨rfl, hb⟩
      replace v_r := v_r.below hb v_r.lt
      replace v_o := v_o.below hb v_o.lt
      replace v_p := v_p.below hb v_p.lt
      replace v_t := v_t.below hb v_t.lt
      replace bw := bw.trans (hb.mono bw.size)
      replace sz := bw.size
      clear hb
      have q_r := v_r.cells
      have z_r := v_r.froz
      have l_r := v_r.lt
      have q_o := v_o.cells
      have z_o := v_o.froz
      have l_o := v_o.lt
      have q_p := v_p.cells
      have z_p := v_p.froz
      have l_p := v_p.lt
      have q_t := v_t.cells
      have z_t := v_t.froz
      have l_t := v_t.lt
      have d_r_l := v_r.lt
      have d_o_l := v_o.lt
      have d_p_l := v_p.lt
      have d_t_l := v_t.lt
      (try dsimp only)
      repeat (first | go_values | go_skip | go_guarded | go_step | go_upon)
      refine bodyPost_ret (v := .tuple #[.agg #[.slice A n c, .int .i64 (s2.at_ : Int), .int .i64 s2.err], .agg #[.int .i64 0, .int .i64 0, .int .i64 0, .bool false]]) (by simp [results, Try.results30, go_sem, q_r, l_r, q_o, l_o, q_p, l_p, q_t, l_t]) rfl ?_
      exact ⟨rfl, by go_grown⟩
end Go.Proofs.Ytagcildoebicnaa
