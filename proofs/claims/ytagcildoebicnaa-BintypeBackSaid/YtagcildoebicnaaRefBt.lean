/-
  The reference of layer 10: the reads.
-/
import Derived.Test.YtagcildoebicnaaRefOct2
import Derived.Test.YtagcildoebicnaaBtGet4
set_option linter.unusedVariables false
set_option linter.unusedSimpArgs false
namespace Go.Proofs.Ytagcildoebicnaa
open Go.RowKit

namespace Oct
theorem fail_at (s : St) (e : Int) : (s.fail e).at_ = s.at_ := by unfold St.fail; split <;> rfl
theorem must_at (s : St) (ok : Bool) (e : Int) : (must s ok e).at_ = s.at_ := by unfold must; split; exact fail_at s e; rfl
theorem byte_at {b : List UInt8} {s : St} (h : s.at_ ≤ b.length) : (byte b s).1.at_ ≤ b.length := by
  unfold byte; split
  · split
    · dsimp only; omega
    · exact h
  · exact h
theorem u32_at {b : List UInt8} {s : St} (h : s.at_ ≤ b.length) : (u32 b s).1.at_ ≤ b.length := by
  rcases u32_ways b s with ⟨_, h3⟩ | ⟨_, er, _, _, h3⟩ | ⟨_, n, k, _, hk, _, h3⟩ <;> rw [h3]
  · exact h
  · exact h
  · dsimp only; omega
theorem sig_at {b : List UInt8} {s : St} (h : s.at_ ≤ b.length) : (sig b s 33).1.at_ ≤ b.length := by
  rcases s33_ways b s with ⟨_, h3⟩ | ⟨_, er, _, _, h3⟩ | ⟨_, n, k, _, _, hk, _, h3⟩ <;> rw [h3]
  · exact h
  · exact h
  · dsimp only; omega
theorem count_at {b : List UInt8} {s : St} (most : Int) (h : s.at_ ≤ b.length) : (count b s most).1.at_ ≤ b.length := by
  unfold count; split
  · rw [fail_at]; exact h
  · exact u32_at h
theorem getVal_at {b : List UInt8} {s : St} (h : s.at_ ≤ b.length) : (getVal b s).1.at_ ≤ b.length := by
  unfold getVal; split
  · split
    · exact byte_at h
    · rw [fail_at]; exact byte_at h
  · exact byte_at h
theorem getN_at {b : List UInt8} : ∀ (n : Nat) {s : St}, s.at_ ≤ b.length → (getN b n s).1.at_ ≤ b.length
  | 0, _, h => h
  | n + 1, _, h => getN_at n (getVal_at h)
theorem getVals_at {b : List UInt8} {s : St} (h : s.at_ ≤ b.length) : (getVals b s).1.at_ ≤ b.length := getN_at _ (count_at 8 h)
theorem getN_len {b : List UInt8} : ∀ (n : Nat) (s : St), (getN b n s).2.length = n
  | 0, _ => rfl
  | n + 1, s => by show (_ :: (getN b n (getVal b s).1).2).length = _; rw [List.length_cons, getN_len n]
theorem getVals_len (b : List UInt8) (s : St) : (getVals b s).2.length ≤ 8 := by
  unfold getVals; rw [getN_len]; have := count_le b s 8 (by decide); omega
end Oct
set_option maxHeartbeats 8000000 in
set_option maxRecDepth 100000 in
theorem refGetVal_any (A : Option Addr) (n c : Nat) (b : List UInt8) (s : Oct.St) (w : World) (hn : b.length = n) (hr : RdB w w.heap.size A b) (hle : s.at_ ≤ n) (hc : n ≤ c) (hb6 : n ≤ 1000000) :
    Calls Try.prog 23 #[.agg #[.slice A n c, .int .i64 (s.at_ : Int), .int .i64 s.err]] w (RNum .i64 A n c (Oct.getVal b s) w) := by
  have HC := Lib.hid (fun w hr => refByte2_any A n c b s w hn hr hle hc hb6)
  have HR := Lib.hid hr
  unfold Oct.getVal
  obtain ⟨⟨s1, x⟩, hy⟩ : ∃ y, Oct.byte b s = y := ⟨_, rfl⟩
  rw [hy] at HC ⊢
  dsimp only
  have HO := Lib.hid (fun w => refOfByte_any x w)
  have HF := Lib.hid (fun w => refFail_any A n c s1 4 w)
  obtain ⟨s2, hs2⟩ : ∃ s2, s1.fail 4 = s2 := ⟨_, rfl⟩
  rw [hs2] at HF ⊢
  clear hy hr hs2
  generalize Ty.ofByte x = y at HO ⊢
  obtain ⟨t, ok⟩ := y
  dsimp only at HO ⊢
  by_cases h1 : s1.err = 0
  · rw [if_pos h1]
    have g1 : (s1.err != 0) = false := by simpa using h1
    clear h1
    rcases ok with _ | _
    · rw [if_neg (by decide)]
      go_enter Try.func23, Try.ntmps23
      go_wp2_with fail
      refine at_world (F := fun w' => Var w' (w.heap.size) #[.slice A n c, .int .i64 (s.at_ : Int), .int .i64 s.err] 35 ∧ Var w' (w.heap.size + 1) #[.slice none 0 0, .int .i64 0, .int .i64 0] 35 ∧ Below w.heap.size w w') ⟨(Var.new w _ _).alloc _, Var.new2 w _ _ _, by go_grown⟩ ?_
      rintro w1 ⟨v_r, v_o, bw⟩
      have sz := bw.size
      refine (HC.out _ ((HR.out.below bw).more bw.size)).mono ?_
      rintro e w2 ⟨rfl, hb⟩
      replace v_r := v_r.below hb v_r.lt
      replace v_o := v_o.below hb v_o.lt
      replace bw := bw.trans (hb.mono bw.size)
      replace sz := bw.size
      clear hb
      have q_r := v_r.cells
      have z_r := v_r.froz
      have l_r := v_r.lt
      have q_o := v_o.cells
      have z_o := v_o.froz
      have l_o := v_o.lt
      have d_r_t := v_r.lt
      have d_o_t := v_o.lt
      go_wp2_with fail
      refine at_world (F := fun w' => Var w' (w.heap.size) #[.slice A n c, .int .i64 (s.at_ : Int), .int .i64 s.err] 35 ∧ Var w' (w.heap.size + 1) #[.slice none 0 0, .int .i64 0, .int .i64 0] 35 ∧ Var w' (w2.heap.size) #[.slice A n c, .int .i64 (s1.at_ : Int), .int .i64 s1.err] 35 ∧ Below w.heap.size w w') ⟨(v_r).alloc _, (v_o).alloc _, Var.newE _ _ _ (by simp), by go_grown⟩ ?_
      clear q_r z_r l_r q_o z_o l_o v_r v_o bw sz
      rintro w3 ⟨v_r, v_o, v_t, bw⟩
      have sz := bw.size
      refine (HO.out _).mono ?_
      rintro e w4 ⟨rfl, hb⟩
      replace v_r := v_r.below hb v_r.lt
      replace v_o := v_o.below hb v_o.lt
      replace v_t := v_t.below hb v_t.lt
      replace bw := bw.trans (hb.mono bw.size)
      replace sz := bw.size
      clear hb
      have q_r := v_r.cells
      have z_r := v_r.froz
      have l_r := v_r.lt
      have q_o := v_o.cells
      have z_o := v_o.froz
      have l_o := v_o.lt
      have q_t := v_t.cells
      have z_t := v_t.froz
      have l_t := v_t.lt
      go_wp2_with fail
      refine at_world (F := fun w' => Var w' (w.heap.size) #[.slice A n c, .int .i64 (s.at_ : Int), .int .i64 s.err] 35 ∧ Var w' (w.heap.size + 1) #[.slice none 0 0, .int .i64 0, .int .i64 0] 35 ∧ Var w' (w2.heap.size) #[.slice A n c, .int .i64 (s1.at_ : Int), .int .i64 s1.err] 35 ∧ Below w.heap.size w w') ⟨v_r, v_o, v_t, by go_grown⟩ ?_
      clear q_r z_r l_r q_o z_o l_o q_t z_t l_t v_r v_o v_t bw sz
      rintro w5 ⟨v_r, v_o, v_t, bw⟩
      have sz := bw.size
      refine (HF.out _).mono ?_
      rintro e w6 ⟨rfl, hb⟩
      replace v_r := v_r.below hb v_r.lt
      replace v_o := v_o.below hb v_o.lt
      replace v_t := v_t.below hb v_t.lt
      replace bw := bw.trans (hb.mono bw.size)
      replace sz := bw.size
      clear hb
      have q_r := v_r.cells
      have z_r := v_r.froz
      have l_r := v_r.lt
      have q_o := v_o.cells
      have z_o := v_o.froz
      have l_o := v_o.lt
      have q_t := v_t.cells
      have z_t := v_t.froz
      have l_t := v_t.lt
      (try dsimp only)
      repeat (first | go_values | go_skip | go_guarded | go_step | go_upon)
      refine bodyPost_ret (v := .tuple #[.agg #[.slice A n c, .int .i64 (s2.at_ : Int), .int .i64 s2.err], .int .i64 0]) (by simp [results, Try.results23, go_sem, q_r, l_r, q_o, l_o, q_t, l_t]) rfl ?_
      exact ⟨rfl, by go_grown⟩
    · rw [if_pos rfl]
      go_enter Try.func23, Try.ntmps23
      go_wp2_with fail
      refine at_world (F := fun w' => Var w' (w.heap.size) #[.slice A n c, .int .i64 (s.at_ : Int), .int .i64 s.err] 35 ∧ Var w' (w.heap.size + 1) #[.slice none 0 0, .int .i64 0, .int .i64 0] 35 ∧ Below w.heap.size w w') ⟨(Var.new w _ _).alloc _, Var.new2 w _ _ _, by go_grown⟩ ?_
      rintro w1 ⟨v_r, v_o, bw⟩
      have sz := bw.size
      refine (HC.out _ ((HR.out.below bw).more bw.size)).mono ?_
      rintro e w2 ⟨rfl, hb⟩
      replace v_r := v_r.below hb v_r.lt
      replace v_o := v_o.below hb v_o.lt
      replace bw := bw.trans (hb.mono bw.size)
      replace sz := bw.size
      clear hb
      have q_r := v_r.cells
      have z_r := v_r.froz
      have l_r := v_r.lt
      have q_o := v_o.cells
      have z_o := v_o.froz
      have l_o := v_o.lt
      have d_r_t := v_r.lt
      have d_o_t := v_o.lt
      go_wp2_with fail
      refine at_world (F := fun w' => Var w' (w.heap.size) #[.slice A n c, .int .i64 (s.at_ : Int), .int .i64 s.err] 35 ∧ Var w' (w.heap.size + 1) #[.slice none 0 0, .int .i64 0, .int .i64 0] 35 ∧ Var w' (w2.heap.size) #[.slice A n c, .int .i64 (s1.at_ : Int), .int .i64 s1.err] 35 ∧ Below w.heap.size w w') ⟨(v_r).alloc _, (v_o).alloc _, Var.newE _ _ _ (by simp), by go_grown⟩ ?_
      clear q_r z_r l_r q_o z_o l_o v_r v_o bw sz
      rintro w3 ⟨v_r, v_o, v_t, bw⟩
      have sz := bw.size
      refine (HO.out _).mono ?_
      rintro e w4 ⟨rfl, hb⟩
      replace v_r := v_r.below hb v_r.lt
      replace v_o := v_o.below hb v_o.lt
      replace v_t := v_t.below hb v_t.lt
      replace bw := bw.trans (hb.mono bw.size)
      replace sz := bw.size
      clear hb
      have q_r := v_r.cells
      have z_r := v_r.froz
      have l_r := v_r.lt
      have q_o := v_o.cells
      have z_o := v_o.froz
      have l_o := v_o.lt
      have q_t := v_t.cells
      have z_t := v_t.froz
      have l_t := v_t.lt
      (try dsimp only)
      repeat (first | go_values | go_skip | go_guarded | go_step | go_upon)
      refine bodyPost_ret (v := .tuple #[.agg #[.slice A n c, .int .i64 (s1.at_ : Int), .int .i64 s1.err], .int .i64 t]) (by simp [results, Try.results23, go_sem, q_r, l_r, q_o, l_o, q_t, l_t]) rfl ?_
      exact ⟨rfl, by go_grown⟩
  · rw [if_neg h1]
    have g1 : (s1.err != 0) = true := by simpa using h1
    clear h1
    go_enter Try.func23, Try.ntmps23
    go_wp2_with fail
    refine at_world (F := fun w' => Var w' (w.heap.size) #[.slice A n c, .int .i64 (s.at_ : Int), .int .i64 s.err] 35 ∧ Var w' (w.heap.size + 1) #[.slice none 0 0, .int .i64 0, .int .i64 0] 35 ∧ Below w.heap.size w w') ⟨(Var.new w _ _).alloc _, Var.new2 w _ _ _, by go_grown⟩ ?_
    rintro w1 ⟨v_r, v_o, bw⟩
    have sz := bw.size
    refine (HC.out _ ((HR.out.below bw).more bw.size)).mono ?_
    rintro e w2 ⟨rfl, hb⟩
    replace v_r := v_r.below hb v_r.lt
    replace v_o := v_o.below hb v_o.lt
    replace bw := bw.trans (hb.mono bw.size)
    replace sz := bw.size
    clear hb
    have q_r := v_r.cells
    have z_r := v_r.froz
    have l_r := v_r.lt
    have q_o := v_o.cells
    have z_o := v_o.froz
    have l_o := v_o.lt
    have d_r_t := v_r.lt
    have d_o_t := v_o.lt
    (try dsimp only)
    repeat (first | go_values | go_skip | go_guarded | go_step | go_upon)
    refine bodyPost_ret (v := .tuple #[.agg #[.slice A n c, .int .i64 (s1.at_ : Int), .int .i64 s1.err], .int .i64 0]) (by simp [results, Try.results23, go_sem, q_r, l_r, q_o, l_o]) rfl ?_
    exact ⟨rfl, by go_grown⟩

def RGlob (A : Option Addr) (n c : Nat) (x : Oct.St × Int × Bool) (w : World) (e : Ending) (w' : World) : Prop :=
  e = .returned (.tuple #[.agg #[.slice A n c, .int .i64 (x.1.at_ : Int), .int .i64 x.1.err], .agg #[.int .i64 x.2.1, .bool x.2.2]]) ∧ Below w.heap.size w w'
set_option maxHeartbeats 8000000 in
set_option maxRecDepth 100000 in
theorem refGetGlobal_any (A : Option Addr) (n c : Nat) (b : List UInt8) (s : Oct.St) (w : World) (hn : b.length = n) (hr : RdB w w.heap.size A b) (hle : s.at_ ≤ n) (hc : n ≤ c) (hb6 : n ≤ 1000000) :
    Calls Try.prog 35 #[.agg #[.slice A n c, .int .i64 (s.at_ : Int), .int .i64 s.err]] w (RGlob A n c (Oct.getGlobal b s) w) := by
  have HC := Lib.hid (fun w hr => refGetVal_any A n c b s w hn hr hle hc hb6)
  have HR := Lib.hid hr
  have hat := Oct.getVal_at (b := b) (s := s) (by omega)
  unfold Oct.getGlobal
  obtain ⟨⟨s1, t⟩, hy⟩ : ∃ y, Oct.getVal b s = y := ⟨_, rfl⟩
  rw [hy] at HC hat ⊢
  dsimp only at hat ⊢
  have HD := Lib.hid (fun w hr => refByte2_any A n c b s1 w hn hr (by omega) hc hb6)
  clear hy hr hat
  obtain ⟨⟨s2, x⟩, hy⟩ : ∃ y, Oct.byte b s1 = y := ⟨_, rfl⟩
  rw [hy] at HD ⊢
  dsimp only
  have HF := Lib.hid (fun w => refFail_any A n c s2 4 w)
  clear hy
  by_cases h2 : s2.err = 0
  · by_cases hx1 : x ≤ 1
    · rw [must_no (by simp [hx1]), if_pos h2]
      have g1 : (s2.err != 0) = false := by simpa using h2
      have g2 : (s2.err == 0) = true := by simpa using h2
      have g3 : decide (1 < x) = false := by simp; omega
      clear h2 hx1
      go_enter Try.func35, Try.ntmps35
      go_wp2_with fail
      refine at_world (F := fun w' => Var w' (w.heap.size) #[.slice A n c, .int .i64 (s.at_ : Int), .int .i64 s.err] 35 ∧ Var w' (w.heap.size + 1) #[.slice none 0 0, .int .i64 0, .int .i64 0] 35 ∧ Var w' (w.heap.size + 2) #[.int .i64 0, .bool false] 67 ∧ Below w.heap.size w w') ⟨((Var.new w _ _).alloc _).alloc _, (Var.new2 w _ _ _).alloc _, Var.new3 w _ _ _ _, by go_grown⟩ ?_
      rintro w1 ⟨v_r, v_o, v_p, bw⟩
      have sz := bw.size
      refine (HC.out _ ((HR.out.below bw).more bw.size)).mono ?_
      rintro e w2 ⟨rfl, hb⟩
      replace v_r := v_r.below hb v_r.lt
      replace v_o := v_o.below hb v_o.lt
      replace v_p := v_p.below hb v_p.lt
      replace bw := bw.trans (hb.mono bw.size)
      replace sz := bw.size
      clear hb
      have q_r := v_r.cells
      have z_r := v_r.froz
      have l_r := v_r.lt
      have q_o := v_o.cells
      have z_o := v_o.froz
      have l_o := v_o.lt
      have q_p := v_p.cells
      have z_p := v_p.froz
      have l_p := v_p.lt
      have d_r_t := v_r.lt
      have d_o_t := v_o.lt
      have d_p_t := v_p.lt
      go_wp2_with fail
      refine at_world (F := fun w' => Var w' (w.heap.size) #[.slice A n c, .int .i64 (s.at_ : Int), .int .i64 s.err] 35 ∧ Var w' (w.heap.size + 1) #[.slice none 0 0, .int .i64 0, .int .i64 0] 35 ∧ Var w' (w.heap.size + 2) #[.int .i64 0, .bool false] 67 ∧ Var w' (w2.heap.size) #[.slice A n c, .int .i64 (s1.at_ : Int), .int .i64 s1.err] 35 ∧ Below w.heap.size w w') ⟨(v_r).alloc _, (v_o).alloc _, (v_p).alloc _, Var.newE _ _ _ (by simp), by go_grown⟩ ?_
      clear q_r z_r l_r q_o z_o l_o q_p z_p l_p v_r v_o v_p bw sz
      rintro w3 ⟨v_r, v_o, v_p, v_t, bw⟩
      have sz := bw.size
      refine (HD.out _ ((HR.out.below bw).more bw.size)).mono ?_
      rintro e w4 ⟨rfl, hb⟩
      replace v_r := v_r.below hb v_r.lt
      replace v_o := v_o.below hb v_o.lt
      replace v_p := v_p.below hb v_p.lt
      replace v_t := v_t.below hb v_t.lt
      replace bw := bw.trans (hb.mono bw.size)
      replace sz := bw.size
      clear hb
      have q_r := v_r.cells
      have z_r := v_r.froz
      have l_r := v_r.lt
      have q_o := v_o.cells
      have z_o := v_o.froz
      have l_o := v_o.lt
      have q_p := v_p.cells
      have z_p := v_p.froz
      have l_p := v_p.lt
      have q_t := v_t.cells
      have z_t := v_t.froz
      have l_t := v_t.lt
      (try dsimp only)
      repeat (first | go_values | go_skip | go_guarded | go_step | go_upon)
      refine bodyPost_ret (v := .tuple #[.agg #[.slice A n c, .int .i64 (s2.at_ : Int), .int .i64 s2.err], .agg #[.int .i64 t, .bool (x == 1)]]) (by simp [results, Try.results35, go_sem, q_r, l_r, q_o, l_o, q_p, l_p, q_t, l_t]) rfl ?_
      exact ⟨rfl, by go_grown⟩
    · have hx2 : decide (x ≤ 1) = false := by simp; omega
      rw [hx2, must_yes h2, if_neg (by rw [fail_err h2]; decide)]
      have g2 : (s2.err == 0) = true := by simpa using h2
      have g3 : decide (1 < x) = true := by simp; omega
      have g4 : ((s2.fail 4).err != 0) = true := by rw [fail_err h2]; decide
      clear h2 hx1 hx2
      go_enter Try.func35, Try.ntmps35
      go_wp2_with fail
      refine at_world (F := fun w' => Var w' (w.heap.size) #[.slice A n c, .int .i64 (s.at_ : Int), .int .i64 s.err] 35 ∧ Var w' (w.heap.size + 1) #[.slice none 0 0, .int .i64 0, .int .i64 0] 35 ∧ Var w' (w.heap.size + 2) #[.int .i64 0, .bool false] 67 ∧ Below w.heap.size w w') ⟨((Var.new w _ _).alloc _).alloc _, (Var.new2 w _ _ _).alloc _, Var.new3 w _ _ _ _, by go_grown⟩ ?_
      rintro w1 ⟨v_r, v_o, v_p, bw⟩
      have sz := bw.size
      refine (HC.out _ ((HR.out.below bw).more bw.size)).mono ?_
      rintro e w2 ⟨rfl, hb⟩
      replace v_r := v_r.below hb v_r.lt
      replace v_o := v_o.below hb v_o.lt
      replace v_p := v_p.below hb v_p.lt
      replace bw := bw.trans (hb.mono bw.size)
      replace sz := bw.size
      clear hb
      have q_r := v_r.cells
      have z_r := v_r.froz
      have l_r := v_r.lt
      have q_o := v_o.cells
      have z_o := v_o.froz
      have l_o := v_o.lt
      have q_p := v_p.cells
      have z_p := v_p.froz
      have l_p := v_p.lt
      have d_r_t := v_r.lt
      have d_o_t := v_o.lt
      have d_p_t := v_p.lt
      go_wp2_with fail
      refine at_world (F := fun w' => Var w' (w.heap.size) #[.slice A n c, .int .i64 (s.at_ : Int), .int .i64 s.err] 35 ∧ Var w' (w.heap.size + 1) #[.slice none 0 0, .int .i64 0, .int .i64 0] 35 ∧ Var w' (w.heap.size + 2) #[.int .i64 0, .bool false] 67 ∧ Var w' (w2.heap.size) #[.slice A n c, .int .i64 (s1.at_ : Int), .int .i64 s1.err] 35 ∧ Below w.heap.size w w') ⟨(v_r).alloc _, (v_o).alloc _, (v_p).alloc _, Var.newE _ _ _ (by simp), by go_grown⟩ ?_
      clear q_r z_r l_r q_o z_o l_o q_p z_p l_p v_r v_o v_p bw sz
      rintro w3 ⟨v_r, v_o, v_p, v_t, bw⟩
      have sz := bw.size
      refine (HD.out _ ((HR.out.below bw).more bw.size)).mono ?_
      rintro e w4 ⟨rfl, hb⟩
      replace v_r := v_r.below hb v_r.lt
      replace v_o := v_o.below hb v_o.lt
      replace v_p := v_p.below hb v_p.lt
      replace v_t := v_t.below hb v_t.lt
      replace bw := bw.trans (hb.mono bw.size)
      replace sz := bw.size
      clear hb
      have q_r := v_r.cells
      have z_r := v_r.froz
      have l_r := v_r.lt
      have q_o := v_o.cells
      have z_o := v_o.froz
      have l_o := v_o.lt
      have q_p := v_p.cells
      have z_p := v_p.froz
      have l_p := v_p.lt
      have q_t := v_t.cells
      have z_t := v_t.froz
      have l_t := v_t.lt
      go_wp2_with fail
      refine at_world (F := fun w' => Var w' (w.heap.size) #[.slice A n c, .int .i64 (s.at_ : Int), .int .i64 s.err] 35 ∧ Var w' (w.heap.size + 1) #[.slice none 0 0, .int .i64 0, .int .i64 0] 35 ∧ Var w' (w.heap.size + 2) #[.int .i64 0, .bool false] 67 ∧ Var w' (w2.heap.size) #[.slice A n c, .int .i64 (s2.at_ : Int), .int .i64 s2.err] 35 ∧ Below w.heap.size w w') ⟨(((v_r).other (by omega) 0 _).other (by omega) 1 _).other (by omega) 2 _, (((v_o).other (by omega) 0 _).other (by omega) 1 _).other (by omega) 2 _, (((v_p).other (by omega) 0 _).other (by omega) 1 _).other (by omega) 2 _, (((v_t).set 0 _).set 1 _).set 2 _, by go_grown⟩ ?_
      clear q_r z_r l_r q_o z_o l_o q_p z_p l_p q_t z_t l_t v_r v_o v_p v_t bw sz
      rintro w5 ⟨v_r, v_o, v_p, v_t, bw⟩
      have sz := bw.size
      refine (HF.out _).mono ?_
      rintro e w6 ⟨rfl, hb⟩
      replace v_r := v_r.below hb v_r.lt
      replace v_o := v_o.below hb v_o.lt
      replace v_p := v_p.below hb v_p.lt
      replace v_t := v_t.below hb v_t.lt
      replace bw := bw.trans (hb.mono bw.size)
      replace sz := bw.size
      clear hb
      have q_r := v_r.cells
      have z_r := v_r.froz
      have l_r := v_r.lt
      have q_o := v_o.cells
      have z_o := v_o.froz
      have l_o := v_o.lt
      have q_p := v_p.cells
      have z_p := v_p.froz
      have l_p := v_p.lt
      have q_t := v_t.cells
      have z_t := v_t.froz
      have l_t := v_t.lt
      (try dsimp only)
      repeat (first | go_values | go_skip | go_guarded | go_step | go_upon)
      refine bodyPost_ret (v := .tuple #[.agg #[.slice A n c, .int .i64 ((s2.fail 4).at_ : Int), .int .i64 (s2.fail 4).err], .agg #[.int .i64 0, .bool false]]) (by simp [results, Try.results35, go_sem, q_r, l_r, q_o, l_o, q_p, l_p, q_t, l_t]) rfl ?_
      exact ⟨rfl, by go_grown⟩
  · rw [must_no (fun hh => h2 hh.1), if_neg h2]
    have g1 : (s2.err != 0) = true := by simpa using h2
    have g2 : (s2.err == 0) = false := by simpa using h2
    clear h2
    go_enter Try.func35, Try.ntmps35
    go_wp2_with fail
    refine at_world (F := fun w' => Var w' (w.heap.size) #[.slice A n c, .int .i64 (s.at_ : Int), .int .i64 s.err] 35 ∧ Var w' (w.heap.size + 1) #[.slice none 0 0, .int .i64 0, .int .i64 0] 35 ∧ Var w' (w.heap.size + 2) #[.int .i64 0, .bool false] 67 ∧ Below w.heap.size w w') ⟨((Var.new w _ _).alloc _).alloc _, (Var.new2 w _ _ _).alloc _, Var.new3 w _ _ _ _, by go_grown⟩ ?_
    rintro w1 ⟨v_r, v_o, v_p, bw⟩
    have sz := bw.size
    refine (HC.out _ ((HR.out.below bw).more bw.size)).mono ?_
    rintro e w2 ⟨rfl, hb⟩
    replace v_r := v_r.below hb v_r.lt
    replace v_o := v_o.below hb v_o.lt
    replace v_p := v_p.below hb v_p.lt
    replace bw := bw.trans (hb.mono bw.size)
    replace sz := bw.size
    clear hb
    have q_r := v_r.cells
    have z_r := v_r.froz
    have l_r := v_r.lt
    have q_o := v_o.cells
    have z_o := v_o.froz
    have l_o := v_o.lt
    have q_p := v_p.cells
    have z_p := v_p.froz
    have l_p := v_p.lt
    have d_r_t := v_r.lt
    have d_o_t := v_o.lt
    have d_p_t := v_p.lt
    go_wp2_with fail
    refine at_world (F := fun w' => Var w' (w.heap.size) #[.slice A n c, .int .i64 (s.at_ : Int), .int .i64 s.err] 35 ∧ Var w' (w.heap.size + 1) #[.slice none 0 0, .int .i64 0, .int .i64 0] 35 ∧ Var w' (w.heap.size + 2) #[.int .i64 0, .bool false] 67 ∧ Var w' (w2.heap.size) #[.slice A n c, .int .i64 (s1.at_ : Int), .int .i64 s1.err] 35 ∧ Below w.heap.size w w') ⟨(v_r).alloc _, (v_o).alloc _, (v_p).alloc _, Var.newE _ _ _ (by simp), by go_grown⟩ ?_
    clear q_r z_r l_r q_o z_o l_o q_p z_p l_p v_r v_o v_p bw sz
    rintro w3 ⟨v_r, v_o, v_p, v_t, bw⟩
    have sz := bw.size
    refine (HD.out _ ((HR.out.below bw).more bw.size)).mono ?_
    rintro e w4 ⟨rfl, hb⟩
    replace v_r := v_r.below hb v_r.lt
    replace v_o := v_o.below hb v_o.lt
    replace v_p := v_p.below hb v_p.lt
    replace v_t := v_t.below hb v_t.lt
    replace bw := bw.trans (hb.mono bw.size)
    replace sz := bw.size
    clear hb
    have q_r := v_r.cells
    have z_r := v_r.froz
    have l_r := v_r.lt
    have q_o := v_o.cells
    have z_o := v_o.froz
    have l_o := v_o.lt
    have q_p := v_p.cells
    have z_p := v_p.froz
    have l_p := v_p.lt
    have q_t := v_t.cells
    have z_t := v_t.froz
    have l_t := v_t.lt
    (try dsimp only)
    repeat (first | go_values | go_skip | go_guarded | go_step | go_upon)
    refine bodyPost_ret (v := .tuple #[.agg #[.slice A n c, .int .i64 (s2.at_ : Int), .int .i64 s2.err], .agg #[.int .i64 0, .bool false]]) (by simp [results, Try.results35, go_sem, q_r, l_r, q_o, l_o, q_p, l_p, q_t, l_t]) rfl ?_
    exact ⟨rfl, by go_grown⟩

def RBlk (A : Option Addr) (n c : Nat) (x : Oct.St × Oct.Blk) (w : World) (e : Ending) (w' : World) : Prop :=
  e = .returned (.tuple #[.agg #[.slice A n c, .int .i64 (x.1.at_ : Int), .int .i64 x.1.err], .agg #[.int .i64 x.2.kind, .int .i64 x.2.val, .int .i64 x.2.idx]]) ∧ Below w.heap.size w w'
theorem ofByte_mid (x : Int) (h : 64 < x) (h2 : x < 111) : Ty.ofByte x = (0, false) := by
  have e1 : ¬ Ty.byte 1 = x := by show ¬ (127 : Int) = x; omega
  have e2 : ¬ Ty.byte 2 = x := by show ¬ (126 : Int) = x; omega
  have e3 : ¬ Ty.byte 3 = x := by show ¬ (112 : Int) = x; omega
  have e4 : ¬ Ty.byte 4 = x := by show ¬ (111 : Int) = x; omega
  unfold Ty.ofByte; rw [if_neg e1, if_neg e2, if_neg e3, if_neg e4]
set_option maxHeartbeats 8000000 in
set_option maxRecDepth 100000 in
theorem refGetBlock_any (A : Option Addr) (n c : Nat) (b : List UInt8) (s : Oct.St) (w : World) (hn : b.length = n) (hr : RdB w w.heap.size A b) (hle : s.at_ ≤ n) (hc : n ≤ c) (hb6 : n ≤ 1000000) :
    Calls Try.prog 16 #[.agg #[.slice A n c, .int .i64 (s.at_ : Int), .int .i64 s.err]] w (RBlk A n c (Oct.getBlock b s) w) := by
  have HC := Lib.hid (fun w hr => refS33_any A n c b s w hn hr hle hc hb6)
  have HR := Lib.hid hr
  unfold Oct.getBlock
  dsimp only
  have hrange : -4294967296 ≤ (Oct.sig b s 33).2 ∧ (Oct.sig b s 33).2 < 4294967296 := by
    rcases Oct.s33_ways b s with ⟨_, h3⟩ | ⟨_, er, _, _, h3⟩ | ⟨_, n, k, hn, hn2, _, _, h3⟩ <;> rw [h3]
    · exact ⟨by dsimp only; omega, by dsimp only; omega⟩
    · exact ⟨by dsimp only; omega, by dsimp only; omega⟩
    · exact ⟨hn, hn2⟩
  obtain ⟨⟨s1, m⟩, hy⟩ : ∃ y, Oct.sig b s 33 = y := ⟨_, rfl⟩
  rw [hy] at HC hrange ⊢
  dsimp only at hrange ⊢
  obtain ⟨r0, r1⟩ := hrange
  have HF := Lib.hid (fun w => refFail_any A n c s1 4 w)
  obtain ⟨s2, hs2⟩ : ∃ s2, s1.fail 4 = s2 := ⟨_, rfl⟩
  rw [hs2] at HF ⊢
  clear hy hr hs2
  by_cases h1 : s1.err = 0
  case neg =>
    rw [if_neg h1]
    have g1 : (s1.err != 0) = true := by simpa using h1
    clear h1
    go_enter Try.func16, Try.ntmps16
    go_wp2_with fail
    refine at_world (F := fun w' => Var w' (w.heap.size) #[.slice A n c, .int .i64 (s.at_ : Int), .int .i64 s.err] 35 ∧ Var w' (w.heap.size + 1) #[.slice none 0 0, .int .i64 0, .int .i64 0] 35 ∧ Var w' (w.heap.size + 2) #[.int .i64 0, .int .i64 0, .int .i64 0] 25 ∧ Below w.heap.size w w') ⟨((Var.new w _ _).alloc _).alloc _, (Var.new2 w _ _ _).alloc _, Var.new3 w _ _ _ _, by go_grown⟩ ?_
    rintro w1 ⟨v_r, v_o, v_p, bw⟩
    have sz := bw.size
    refine (HC.out _ ((HR.out.below bw).more bw.size)).mono ?_
    rintro e w2 ⟨rfl, hb⟩
    replace v_r := v_r.below hb v_r.lt
    replace v_o := v_o.below hb v_o.lt
    replace v_p := v_p.below hb v_p.lt
    replace bw := bw.trans (hb.mono bw.size)
    replace sz := bw.size
    clear hb
    have q_r := v_r.cells
    have z_r := v_r.froz
    have l_r := v_r.lt
    have q_o := v_o.cells
    have z_o := v_o.froz
    have l_o := v_o.lt
    have q_p := v_p.cells
    have z_p := v_p.froz
    have l_p := v_p.lt
    have d_r_t := v_r.lt
    have d_o_t := v_o.lt
    have d_p_t := v_p.lt
    (try dsimp only)
    repeat (first | go_values | go_skip | go_guarded | go_step | go_upon)
    refine bodyPost_ret (v := .tuple #[.agg #[.slice A n c, .int .i64 (s1.at_ : Int), .int .i64 s1.err], .agg #[.int .i64 0, .int .i64 0, .int .i64 0]]) (by simp [results, Try.results16, go_sem, q_r, l_r, q_o, l_o, q_p, l_p]) rfl ?_
    exact ⟨rfl, by go_grown⟩
  rw [if_pos h1]
  have g1 : (s1.err != 0) = false := by simpa using h1
  clear h1
  by_cases hpos : 0 ≤ m
  · rw [if_neg (by omega), if_pos hpos]
    have g0 : decide (0 ≤ m) = true := by simpa using hpos
    go_enter Try.func16, Try.ntmps16
    go_wp2_with fail
    refine at_world (F := fun w' => Var w' (w.heap.size) #[.slice A n c, .int .i64 (s.at_ : Int), .int .i64 s.err] 35 ∧ Var w' (w.heap.size + 1) #[.slice none 0 0, .int .i64 0, .int .i64 0] 35 ∧ Var w' (w.heap.size + 2) #[.int .i64 0, .int .i64 0, .int .i64 0] 25 ∧ Below w.heap.size w w') ⟨((Var.new w _ _).alloc _).alloc _, (Var.new2 w _ _ _).alloc _, Var.new3 w _ _ _ _, by go_grown⟩ ?_
    rintro w1 ⟨v_r, v_o, v_p, bw⟩
    have sz := bw.size
    refine (HC.out _ ((HR.out.below bw).more bw.size)).mono ?_
    rintro e w2 ⟨rfl, hb⟩
    replace v_r := v_r.below hb v_r.lt
    replace v_o := v_o.below hb v_o.lt
    replace v_p := v_p.below hb v_p.lt
    replace bw := bw.trans (hb.mono bw.size)
    replace sz := bw.size
    clear hb
    have q_r := v_r.cells
    have z_r := v_r.froz
    have l_r := v_r.lt
    have q_o := v_o.cells
    have z_o := v_o.froz
    have l_o := v_o.lt
    have q_p := v_p.cells
    have z_p := v_p.froz
    have l_p := v_p.lt
    have d_r_t := v_r.lt
    have d_o_t := v_o.lt
    have d_p_t := v_p.lt
    (try dsimp only)
    repeat (first | go_values | go_skip | go_guarded | go_step | go_upon)
    refine bodyPost_ret (v := .tuple #[.agg #[.slice A n c, .int .i64 (s1.at_ : Int), .int .i64 s1.err], .agg #[.int .i64 2, .int .i64 0, .int .i64 m]]) (by simp [results, Try.results16, go_sem, q_r, l_r, q_o, l_o, q_p, l_p]) rfl ?_
    exact ⟨rfl, by go_grown⟩
  have g0 : decide (0 ≤ m) = false := by simpa using hpos
  by_cases h64 : m = -64
  · subst h64
    rw [if_pos rfl]
    go_enter Try.func16, Try.ntmps16
    go_wp2_with fail
    refine at_world (F := fun w' => Var w' (w.heap.size) #[.slice A n c, .int .i64 (s.at_ : Int), .int .i64 s.err] 35 ∧ Var w' (w.heap.size + 1) #[.slice none 0 0, .int .i64 0, .int .i64 0] 35 ∧ Var w' (w.heap.size + 2) #[.int .i64 0, .int .i64 0, .int .i64 0] 25 ∧ Below w.heap.size w w') ⟨((Var.new w _ _).alloc _).alloc _, (Var.new2 w _ _ _).alloc _, Var.new3 w _ _ _ _, by go_grown⟩ ?_
    rintro w1 ⟨v_r, v_o, v_p, bw⟩
    have sz := bw.size
    refine (HC.out _ ((HR.out.below bw).more bw.size)).mono ?_
    rintro e w2 ⟨rfl, hb⟩
    replace v_r := v_r.below hb v_r.lt
    replace v_o := v_o.below hb v_o.lt
    replace v_p := v_p.below hb v_p.lt
    replace bw := bw.trans (hb.mono bw.size)
    replace sz := bw.size
    clear hb
    have q_r := v_r.cells
    have z_r := v_r.froz
    have l_r := v_r.lt
    have q_o := v_o.cells
    have z_o := v_o.froz
    have l_o := v_o.lt
    have q_p := v_p.cells
    have z_p := v_p.froz
    have l_p := v_p.lt
    have d_r_t := v_r.lt
    have d_o_t := v_o.lt
    have d_p_t := v_p.lt
    (try dsimp only)
    repeat (first | go_values | go_skip | go_guarded | go_step | go_upon)
    refine bodyPost_ret (v := .tuple #[.agg #[.slice A n c, .int .i64 (s1.at_ : Int), .int .i64 s1.err], .agg #[.int .i64 0, .int .i64 0, .int .i64 0]]) (by simp [results, Try.results16, go_sem, q_r, l_r, q_o, l_o, q_p, l_p]) rfl ?_
    exact ⟨rfl, by go_grown⟩
  rw [if_neg h64, if_neg hpos]
  have g64 : (m == -64) = false := by simpa using h64
  by_cases hlt : m < -64
  · rw [if_neg (by omega)]
    have g5 : decide (m < -64) = true := by simpa using hlt
    clear hpos h64
    go_enter Try.func16, Try.ntmps16
    go_wp2_with fail
    refine at_world (F := fun w' => Var w' (w.heap.size) #[.slice A n c, .int .i64 (s.at_ : Int), .int .i64 s.err] 35 ∧ Var w' (w.heap.size + 1) #[.slice none 0 0, .int .i64 0, .int .i64 0] 35 ∧ Var w' (w.heap.size + 2) #[.int .i64 0, .int .i64 0, .int .i64 0] 25 ∧ Below w.heap.size w w') ⟨((Var.new w _ _).alloc _).alloc _, (Var.new2 w _ _ _).alloc _, Var.new3 w _ _ _ _, by go_grown⟩ ?_
    rintro w1 ⟨v_r, v_o, v_p, bw⟩
    have sz := bw.size
    refine (HC.out _ ((HR.out.below bw).more bw.size)).mono ?_
    rintro e w2 ⟨rfl, hb⟩
    replace v_r := v_r.below hb v_r.lt
    replace v_o := v_o.below hb v_o.lt
    replace v_p := v_p.below hb v_p.lt
    replace bw := bw.trans (hb.mono bw.size)
    replace sz := bw.size
    clear hb
    have q_r := v_r.cells
    have z_r := v_r.froz
    have l_r := v_r.lt
    have q_o := v_o.cells
    have z_o := v_o.froz
    have l_o := v_o.lt
    have q_p := v_p.cells
    have z_p := v_p.froz
    have l_p := v_p.lt
    have d_r_t := v_r.lt
    have d_o_t := v_o.lt
    have d_p_t := v_p.lt
    go_wp2_with fail
    refine at_world (F := fun w' => Var w' (w.heap.size) #[.slice A n c, .int .i64 (s.at_ : Int), .int .i64 s.err] 35 ∧ Var w' (w.heap.size + 1) #[.slice none 0 0, .int .i64 0, .int .i64 0] 35 ∧ Var w' (w.heap.size + 2) #[.int .i64 0, .int .i64 0, .int .i64 0] 25 ∧ Var w' (w2.heap.size) #[.slice A n c, .int .i64 (s1.at_ : Int), .int .i64 s1.err] 35 ∧ Below w.heap.size w w') ⟨(v_r).alloc _, (v_o).alloc _, (v_p).alloc _, Var.newE _ _ _ (by simp), by go_grown⟩ ?_
    clear q_r z_r l_r q_o z_o l_o q_p z_p l_p v_r v_o v_p bw sz
    rintro w3 ⟨v_r, v_o, v_p, v_t, bw⟩
    have sz := bw.size
    refine (HF.out _).mono ?_
    rintro e w4 ⟨rfl, hb⟩
    replace v_r := v_r.below hb v_r.lt
    replace v_o := v_o.below hb v_o.lt
    replace v_p := v_p.below hb v_p.lt
    replace v_t := v_t.below hb v_t.lt
    replace bw := bw.trans (hb.mono bw.size)
    replace sz := bw.size
    clear hb
    have q_r := v_r.cells
    have z_r := v_r.froz
    have l_r := v_r.lt
    have q_o := v_o.cells
    have z_o := v_o.froz
    have l_o := v_o.lt
    have q_p := v_p.cells
    have z_p := v_p.froz
    have l_p := v_p.lt
    have q_t := v_t.cells
    have z_t := v_t.froz
    have l_t := v_t.lt
    (try dsimp only)
    repeat (first | go_values | go_skip | go_guarded | go_step | go_upon)
    refine bodyPost_ret (v := .tuple #[.agg #[.slice A n c, .int .i64 (s2.at_ : Int), .int .i64 s2.err], .agg #[.int .i64 0, .int .i64 0, .int .i64 0]]) (by simp [results, Try.results16, go_sem, q_r, l_r, q_o, l_o, q_p, l_p, q_t, l_t]) rfl ?_
    exact ⟨rfl, by go_grown⟩
  have g5 : decide (m < -64) = false := by simp; omega
  have hw1 : IntKind.i64.wrap (m + 128) = m + 128 := wrap_i64_of _ (by omega) (by omega)
  have hw2 : IntKind.u8.wrap (m + 128) = m + 128 := u8_in _ (by omega) (by omega)
  have HO := Lib.hid (fun w => refOfByte_any (m + 128) w)
  have hcond : (-17 ≤ m ∧ (Ty.ofByte (m + 128)).2 = true) ↔ (Ty.ofByte (m + 128)).2 = true := by
    refine ⟨fun hh => hh.2, fun hh => ⟨?_, hh⟩⟩
    by_cases h17 : -17 ≤ m
    · exact h17
    · rw [ofByte_mid (m + 128) (by omega) (by omega)] at hh; cases hh
  simp only [hcond]
  clear hcond
  generalize Ty.ofByte (m + 128) = y at HO ⊢
  obtain ⟨t, ok⟩ := y
  dsimp only at HO ⊢
  rcases ok with _ | _
  · rw [if_neg (by decide)]
    clear hpos h64 hlt
    go_enter Try.func16, Try.ntmps16
    go_wp2_with fail
    refine at_world (F := fun w' => Var w' (w.heap.size) #[.slice A n c, .int .i64 (s.at_ : Int), .int .i64 s.err] 35 ∧ Var w' (w.heap.size + 1) #[.slice none 0 0, .int .i64 0, .int .i64 0] 35 ∧ Var w' (w.heap.size + 2) #[.int .i64 0, .int .i64 0, .int .i64 0] 25 ∧ Below w.heap.size w w') ⟨((Var.new w _ _).alloc _).alloc _, (Var.new2 w _ _ _).alloc _, Var.new3 w _ _ _ _, by go_grown⟩ ?_
    rintro w1 ⟨v_r, v_o, v_p, bw⟩
    have sz := bw.size
    refine (HC.out _ ((HR.out.below bw).more bw.size)).mono ?_
    rintro e w2 ⟨rfl, hb⟩
    replace v_r := v_r.below hb v_r.lt
    replace v_o := v_o.below hb v_o.lt
    replace v_p := v_p.below hb v_p.lt
    replace bw := bw.trans (hb.mono bw.size)
    replace sz := bw.size
    clear hb
    have q_r := v_r.cells
    have z_r := v_r.froz
    have l_r := v_r.lt
    have q_o := v_o.cells
    have z_o := v_o.froz
    have l_o := v_o.lt
    have q_p := v_p.cells
    have z_p := v_p.froz
    have l_p := v_p.lt
    have d_r_t := v_r.lt
    have d_o_t := v_o.lt
    have d_p_t := v_p.lt
    go_wp2_with fail
    refine at_world (F := fun w' => Var w' (w.heap.size) #[.slice A n c, .int .i64 (s.at_ : Int), .int .i64 s.err] 35 ∧ Var w' (w.heap.size + 1) #[.slice none 0 0, .int .i64 0, .int .i64 0] 35 ∧ Var w' (w.heap.size + 2) #[.int .i64 0, .int .i64 0, .int .i64 0] 25 ∧ Var w' (w2.heap.size) #[.slice A n c, .int .i64 (s1.at_ : Int), .int .i64 s1.err] 35 ∧ Below w.heap.size w w') ⟨(v_r).alloc _, (v_o).alloc _, (v_p).alloc _, Var.newE _ _ _ (by simp), by go_grown⟩ ?_
    clear q_r z_r l_r q_o z_o l_o q_p z_p l_p v_r v_o v_p bw sz
    rintro w3 ⟨v_r, v_o, v_p, v_t, bw⟩
    have sz := bw.size
    refine (HO.out _).mono ?_
    rintro e w4 ⟨rfl, hb⟩
    replace v_r := v_r.below hb v_r.lt
    replace v_o := v_o.below hb v_o.lt
    replace v_p := v_p.below hb v_p.lt
    replace v_t := v_t.below hb v_t.lt
    replace bw := bw.trans (hb.mono bw.size)
    replace sz := bw.size
    clear hb
    have q_r := v_r.cells
    have z_r := v_r.froz
    have l_r := v_r.lt
    have q_o := v_o.cells
    have z_o := v_o.froz
    have l_o := v_o.lt
    have q_p := v_p.cells
    have z_p := v_p.froz
    have l_p := v_p.lt
    have q_t := v_t.cells
    have z_t := v_t.froz
    have l_t := v_t.lt
    go_wp2_with fail
    refine at_world (F := fun w' => Var w' (w.heap.size) #[.slice A n c, .int .i64 (s.at_ : Int), .int .i64 s.err] 35 ∧ Var w' (w.heap.size + 1) #[.slice none 0 0, .int .i64 0, .int .i64 0] 35 ∧ Var w' (w.heap.size + 2) #[.int .i64 0, .int .i64 0, .int .i64 0] 25 ∧ Var w' (w2.heap.size) #[.slice A n c, .int .i64 (s1.at_ : Int), .int .i64 s1.err] 35 ∧ Below w.heap.size w w') ⟨v_r, v_o, v_p, v_t, by go_grown⟩ ?_
    clear q_r z_r l_r q_o z_o l_o q_p z_p l_p q_t z_t l_t v_r v_o v_p v_t bw sz
    rintro w5 ⟨v_r, v_o, v_p, v_t, bw⟩
    have sz := bw.size
    refine (HF.out _).mono ?_
    rintro e w6 ⟨rfl, hb⟩
    replace v_r := v_r.below hb v_r.lt
    replace v_o := v_o.below hb v_o.lt
    replace v_p := v_p.below hb v_p.lt
    replace v_t := v_t.below hb v_t.lt
    replace bw := bw.trans (hb.mono bw.size)
    replace sz := bw.size
    clear hb
    have q_r := v_r.cells
    have z_r := v_r.froz
    have l_r := v_r.lt
    have q_o := v_o.cells
    have z_o := v_o.froz
    have l_o := v_o.lt
    have q_p := v_p.cells
    have z_p := v_p.froz
    have l_p := v_p.lt
    have q_t := v_t.cells
    have z_t := v_t.froz
    have l_t := v_t.lt
    (try dsimp only)
    repeat (first | go_values | go_skip | go_guarded | go_step | go_upon)
    refine bodyPost_ret (v := .tuple #[.agg #[.slice A n c, .int .i64 (s2.at_ : Int), .int .i64 s2.err], .agg #[.int .i64 0, .int .i64 0, .int .i64 0]]) (by simp [results, Try.results16, go_sem, q_r, l_r, q_o, l_o, q_p, l_p, q_t, l_t]) rfl ?_
    exact ⟨rfl, by go_grown⟩
  · rw [if_pos rfl]
    clear hpos h64 hlt
    go_enter Try.func16, Try.ntmps16
    go_wp2_with fail
    refine at_world (F := fun w' => Var w' (w.heap.size) #[.slice A n c, .int .i64 (s.at_ : Int), .int .i64 s.err] 35 ∧ Var w' (w.heap.size + 1) #[.slice none 0 0, .int .i64 0, .int .i64 0] 35 ∧ Var w' (w.heap.size + 2) #[.int .i64 0, .int .i64 0, .int .i64 0] 25 ∧ Below w.heap.size w w') ⟨((Var.new w _ _).alloc _).alloc _, (Var.new2 w _ _ _).alloc _, Var.new3 w _ _ _ _, by go_grown⟩ ?_
    rintro w1 ⟨v_r, v_o, v_p, bw⟩
    have sz := bw.size
    refine (HC.out _ ((HR.out.below bw).more bw.size)).mono ?_
    rintro e w2 ⟨rfl, hb⟩
    replace v_r := v_r.below hb v_r.lt
    replace v_o := v_o.below hb v_o.lt
    replace v_p := v_p.below hb v_p.lt
    replace bw := bw.trans (hb.mono bw.size)
    replace sz := bw.size
    clear hb
    have q_r := v_r.cells
    have z_r := v_r.froz
    have l_r := v_r.lt
    have q_o := v_o.cells
    have z_o := v_o.froz
    have l_o := v_o.lt
    have q_p := v_p.cells
    have z_p := v_p.froz
    have l_p := v_p.lt
    have d_r_t := v_r.lt
    have d_o_t := v_o.lt
    have d_p_t := v_p.lt
    go_wp2_with fail
    refine at_world (F := fun w' => Var w' (w.heap.size) #[.slice A n c, .int .i64 (s.at_ : Int), .int .i64 s.err] 35 ∧ Var w' (w.heap.size + 1) #[.slice none 0 0, .int .i64 0, .int .i64 0] 35 ∧ Var w' (w.heap.size + 2) #[.int .i64 0, .int .i64 0, .int .i64 0] 25 ∧ Var w' (w2.heap.size) #[.slice A n c, .int .i64 (s1.at_ : Int), .int .i64 s1.err] 35 ∧ Below w.heap.size w w') ⟨(v_r).alloc _, (v_o).alloc _, (v_p).alloc _, Var.newE _ _ _ (by simp), by go_grown⟩ ?_
    clear q_r z_r l_r q_o z_o l_o q_p z_p l_p v_r v_o v_p bw sz
    rintro w3 ⟨v_r, v_o, v_p, v_t, bw⟩
    have sz := bw.size
    refine (HO.out _).mono ?_
    rintro e w4 ⟨rfl, hb⟩
    replace v_r := v_r.below hb v_r.lt
    replace v_o := v_o.below hb v_o.lt
    replace v_p := v_p.below hb v_p.lt
    replace v_t := v_t.below hb v_t.lt
    replace bw := bw.trans (hb.mono bw.size)
    replace sz := bw.size
    clear hb
    have q_r := v_r.cells
    have z_r := v_r.froz
    have l_r := v_r.lt
    have q_o := v_o.cells
    have z_o := v_o.froz
    have l_o := v_o.lt
    have q_p := v_p.cells
    have z_p := v_p.froz
    have l_p := v_p.lt
    have q_t := v_t.cells
    have z_t := v_t.froz
    have l_t := v_t.lt
    (try dsimp only)
    repeat (first | go_values | go_skip | go_guarded | go_step | go_upon)
    refine bodyPost_ret (v := .tuple #[.agg #[.slice A n c, .int .i64 (s1.at_ : Int), .int .i64 s1.err], .agg #[.int .i64 1, .int .i64 t, .int .i64 0]]) (by simp [results, Try.results16, go_sem, q_r, l_r, q_o, l_o, q_p, l_p, q_t, l_t]) rfl ?_
    exact ⟨rfl, by go_grown⟩
end Go.Proofs.Ytagcildoebicnaa
