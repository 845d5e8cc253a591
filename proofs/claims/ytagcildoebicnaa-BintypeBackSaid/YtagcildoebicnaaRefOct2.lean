/-
  The reference of layer 2: numbers, Count.
-/
import Derived.Test.YtagcildoebicnaaRefOct
set_option linter.unusedVariables false
set_option linter.unusedSimpArgs false
namespace Go.Proofs.Ytagcildoebicnaa
open Go.RowKit

set_option maxHeartbeats 4000000 in
set_option maxRecDepth 100000 in
theorem refUns_any (A : Option Addr) (n c : Nat) (b : List UInt8) (s : Oct.St) (w : World) (hn : b.length = n) (hr : RdB w w.heap.size A b) (hle : s.at_ ≤ n) (hc : n ≤ c) (hb6 : n ≤ 1000000) :
    Calls Try.prog 96 #[.agg #[.slice A n c, .int .i64 (s.at_ : Int), .int .i64 s.err], .int .i64 32] w (RNum .u64 A n c (Oct.u32 b s) w) := by
  rcases Oct.u32_ways b s with ⟨h0, h3⟩ | ⟨h0, er, hne, hu, h3⟩ | ⟨h0, nn, k, hn1, hk, hu, h3⟩
  · rw [h3]
    have g : (s.err != 0) = true := by simpa using h0
    clear h3 h0
    go_enter Try.func96, Try.ntmps96
    go_wp2
    go_returns
    exact ⟨rfl, by go_grown⟩
  all_goals
    rw [h3]
    have g : (s.err != 0) = false := by simpa using h0
    subst hn
    have hsl := fun w => slice_from A b.length c s.at_ hle hc w
    have hr1 := hr.from_ hle hc
    generalize (if c = s.at_ then A else A.map (·.add (s.at_ * 1))) = A1 at hr1 hsl
    have HLN : (b.drop s.at_).length = b.length - s.at_ := List.length_drop
    have hl6 : (b.drop s.at_).length ≤ 1000000000 := by omega
    have hcall : ∀ (x : Int × Int × Int), Leb.uF (b.drop s.at_) 32 = x → ∀ W : World, Below w.heap.size w W → Calls Try.prog 105 #[.slice A1 (b.length - s.at_) (c - s.at_), .int .i64 32] W fun e w' => e = .returned (.tuple #[.int .u64 x.1, .int .i64 x.2.1, .int .i64 x.2.2]) ∧ Below W.heap.size W w' := by
      intro x hx W hW
      have HC := refU_any A1 (c - s.at_) (b.drop s.at_) 32 W w.heap.size (hr1.below hW) hl6
      rw [HLN] at HC
      refine HC.mono ?_
      rintro e w1 ⟨rfl, rfl⟩
      exact ⟨by rw [hx], Below.refl _ _⟩
    have HU := Lib.hid (hcall _ hu)
    clear hu hcall h3 HLN hl6 hr hr1
  · have HF := Lib.hid (fun w => refFail_any A b.length c s er w)
    have HX : s.fail er = ⟨s.at_, er⟩ := by unfold Oct.St.fail; rw [if_pos h0]
    rw [HX] at HF
    dsimp only at HF ⊢
    have hne' : (er != 0) = true := by simpa using hne
    clear HX h0 hne
    go_enter Try.func96, Try.ntmps96
    go_wp2_with fail
    refine at_world (F := fun w' => Var w' (w.heap.size) #[.slice A b.length c, .int .i64 (s.at_ : Int), .int .i64 s.err] 35 ∧ Var w' (w.heap.size + 1) #[.slice none 0 0, .int .i64 0, .int .i64 0] 35 ∧ Below w.heap.size w w') ⟨(Var.new w _ _).alloc _, Var.new2 w _ _ _, by go_grown⟩ ?_
    rintro w1 ⟨v_r, v_o, bw⟩
    have sz := bw.size
    refine (HU.out _ bw).mono ?_
    rintro e w2 ⟨rfl, hb⟩
    replace v_r := v_r.below hb v_r.lt
    replace v_o := v_o.below hb v_o.lt
    replace bw := bw.trans (hb.mono bw.size)
    replace sz := bw.size
    clear hb
    have q_r := v_r.cells
    have z_r := v_r.froz
    have l_r := v_r.lt
    have q_o := v_o.cells
    have z_o := v_o.froz
    have l_o := v_o.lt
    go_wp2_with fail
    refine at_world (F := fun w' => Var w' (w.heap.size) #[.slice A b.length c, .int .i64 (s.at_ : Int), .int .i64 s.err] 35 ∧ Var w' (w.heap.size + 1) #[.slice none 0 0, .int .i64 0, .int .i64 0] 35 ∧ Below w.heap.size w w') ⟨v_r, v_o, by go_grown⟩ ?_
    clear q_r z_r l_r q_o z_o l_o v_r v_o bw sz
    rintro w3 ⟨v_r, v_o, bw⟩
    have sz := bw.size
    refine (HF.out _).mono ?_
    rintro e w4 ⟨rfl, hb⟩
    replace v_r := v_r.below hb v_r.lt
    replace v_o := v_o.below hb v_o.lt
    replace bw := bw.trans (hb.mono bw.size)
    replace sz := bw.size
    clear hb
    have q_r := v_r.cells
    have z_r := v_r.froz
    have l_r := v_r.lt
    have q_o := v_o.cells
    have z_o := v_o.froz
    have l_o := v_o.lt
    (try dsimp only)
    repeat (first | go_values | go_skip | go_guarded | go_step | go_upon)
    refine bodyPost_ret (v := .tuple #[.agg #[.slice A b.length c, .int .i64 (s.at_ : Int), .int .i64 er], .int .u64 0]) (by simp [results, Try.results96, go_sem, q_r, l_r, q_o, l_o]) rfl ?_
    exact ⟨rfl, by go_grown⟩
  · have HE := Lib.hid h0
    clear h0
    go_enter Try.func96, Try.ntmps96
    go_wp2_with fail
    refine at_world (F := fun w' => Var w' (w.heap.size) #[.slice A b.length c, .int .i64 (s.at_ : Int), .int .i64 s.err] 35 ∧ Var w' (w.heap.size + 1) #[.slice none 0 0, .int .i64 0, .int .i64 0] 35 ∧ Below w.heap.size w w') ⟨(Var.new w _ _).alloc _, Var.new2 w _ _ _, by go_grown⟩ ?_
    rintro w1 ⟨v_r, v_o, bw⟩
    have sz := bw.size
    refine (HU.out _ bw).mono ?_
    rintro e w2 ⟨rfl, hb⟩
    replace v_r := v_r.below hb v_r.lt
    replace v_o := v_o.below hb v_o.lt
    replace bw := bw.trans (hb.mono bw.size)
    replace sz := bw.size
    clear hb
    have q_r := v_r.cells
    have z_r := v_r.froz
    have l_r := v_r.lt
    have q_o := v_o.cells
    have z_o := v_o.froz
    have l_o := v_o.lt
    (try dsimp only)
    repeat (first | go_values | go_skip | go_guarded | go_step | go_upon)
    refine bodyPost_ret (v := .tuple #[.agg #[.slice A b.length c, .int .i64 ((s.at_ : Int) + (k : Int)), .int .i64 s.err], .int .u64 (nn : Int)]) (by simp [results, Try.results96, go_sem, q_r, l_r, q_o, l_o]) rfl ?_
    refine ⟨?_, by go_grown⟩
    rw [HE.out]; rfl

set_option maxHeartbeats 4000000 in
set_option maxRecDepth 100000 in
theorem refSig_any (A : Option Addr) (n c : Nat) (b : List UInt8) (s : Oct.St) (w : World) (hn : b.length = n) (hr : RdB w w.heap.size A b) (hle : s.at_ ≤ n) (hc : n ≤ c) (hb6 : n ≤ 1000000) :
    Calls Try.prog 87 #[.agg #[.slice A n c, .int .i64 (s.at_ : Int), .int .i64 s.err], .int .i64 33] w (RNum .i64 A n c (Oct.sig b s 33) w) := by
  rcases Oct.s33_ways b s with ⟨h0, h3⟩ | ⟨h0, er, hne, hu, h3⟩ | ⟨h0, nn, k, hn1, hn2, hk, hu, h3⟩
  · rw [h3]
    have g : (s.err != 0) = true := by simpa using h0
    clear h3 h0
    go_enter Try.func87, Try.ntmps87
    go_wp2
    go_returns
    exact ⟨rfl, by go_grown⟩
  all_goals
    rw [h3]
    have g : (s.err != 0) = false := by simpa using h0
    subst hn
    have hsl := fun w => slice_from A b.length c s.at_ hle hc w
    have hr1 := hr.from_ hle hc
    generalize (if c = s.at_ then A else A.map (·.add (s.at_ * 1))) = A1 at hr1 hsl
    have HLN : (b.drop s.at_).length = b.length - s.at_ := List.length_drop
    have hl6 : (b.drop s.at_).length ≤ 1000000000 := by omega
    have hcall : ∀ (x : Int × Int × Int), Leb.sF (b.drop s.at_) 33 = x → ∀ W : World, Below w.heap.size w W → Calls Try.prog 101 #[.slice A1 (b.length - s.at_) (c - s.at_), .int .i64 33] W fun e w' => e = .returned (.tuple #[.int .i64 x.1, .int .i64 x.2.1, .int .i64 x.2.2]) ∧ Below W.heap.size W w' := by
      intro x hx W hW
      have HC := refS_any A1 (c - s.at_) (b.drop s.at_) 33 W w.heap.size (hr1.below hW) hl6
      rw [HLN] at HC
      refine HC.mono ?_
      rintro e w1 ⟨rfl, rfl⟩
      exact ⟨by rw [hx], Below.refl _ _⟩
    have HU := Lib.hid (hcall _ hu)
    clear hu hcall h3 HLN hl6 hr hr1
  · have HF := Lib.hid (fun w => refFail_any A b.length c s er w)
    have HX : s.fail er = ⟨s.at_, er⟩ := by unfold Oct.St.fail; rw [if_pos h0]
    rw [HX] at HF
    dsimp only at HF ⊢
    have hne' : (er != 0) = true := by simpa using hne
    clear HX h0 hne
    go_enter Try.func87, Try.ntmps87
    go_wp2_with fail
    refine at_world (F := fun w' => Var w' (w.heap.size) #[.slice A b.length c, .int .i64 (s.at_ : Int), .int .i64 s.err] 35 ∧ Var w' (w.heap.size + 1) #[.slice none 0 0, .int .i64 0, .int .i64 0] 35 ∧ Below w.heap.size w w') ⟨(Var.new w _ _).alloc _, Var.new2 w _ _ _, by go_grown⟩ ?_
    rintro w1 ⟨v_r, v_o, bw⟩
    have sz := bw.size
    refine (HU.out _ bw).mono ?_
    rintro e w2 ⟨rfl, hb⟩
    replace v_r := v_r.below hb v_r.lt
    replace v_o := v_o.below hb v_o.lt
    replace bw := bw.trans (hb.mono bw.size)
    replace sz := bw.size
    clear hb
    have q_r := v_r.cells
    have z_r := v_r.froz
    have l_r := v_r.lt
    have q_o := v_o.cells
    have z_o := v_o.froz
    have l_o := v_o.lt
    go_wp2_with fail
    refine at_world (F := fun w' => Var w' (w.heap.size) #[.slice A b.length c, .int .i64 (s.at_ : Int), .int .i64 s.err] 35 ∧ Var w' (w.heap.size + 1) #[.slice none 0 0, .int .i64 0, .int .i64 0] 35 ∧ Below w.heap.size w w') ⟨v_r, v_o, by go_grown⟩ ?_
    clear q_r z_r l_r q_o z_o l_o v_r v_o bw sz
    rintro w3 ⟨v_r, v_o, bw⟩
    have sz := bw.size
    refine (HF.out _).mono ?_
    rintro e w4 ⟨rfl, hb⟩
    replace v_r := v_r.below hb v_r.lt
    replace v_o := v_o.below hb v_o.lt
    replace bw := bw.trans (hb.mono bw.size)
    replace sz := bw.size
    clear hb
    have q_r := v_r.cells
    have z_r := v_r.froz
    have l_r := v_r.lt
    have q_o := v_o.cells
    have z_o := v_o.froz
    have l_o := v_o.lt
    (try dsimp only)
    repeat (first | go_values | go_skip | go_guarded | go_step | go_upon)
    refine bodyPost_ret (v := .tuple #[.agg #[.slice A b.length c, .int .i64 (s.at_ : Int), .int .i64 er], .int .i64 0]) (by simp [results, Try.results87, go_sem, q_r, l_r, q_o, l_o]) rfl ?_
    exact ⟨rfl, by go_grown⟩
  · have HE := Lib.hid h0
    clear h0
    go_enter Try.func87, Try.ntmps87
    go_wp2_with fail
    refine at_world (F := fun w' => Var w' (w.heap.size) #[.slice A b.length c, .int .i64 (s.at_ : Int), .int .i64 s.err] 35 ∧ Var w' (w.heap.size + 1) #[.slice none 0 0, .int .i64 0, .int .i64 0] 35 ∧ Below w.heap.size w w') ⟨(Var.new w _ _).alloc _, Var.new2 w _ _ _, by go_grown⟩ ?_
    rintro w1 ⟨v_r, v_o, bw⟩
    have sz := bw.size
    refine (HU.out _ bw).mono ?_
    rintro e w2 ⟨rfl, hb⟩
    replace v_r := v_r.below hb v_r.lt
    replace v_o := v_o.below hb v_o.lt
    replace bw := bw.trans (hb.mono bw.size)
    replace sz := bw.size
    clear hb
    have q_r := v_r.cells
    have z_r := v_r.froz
    have l_r := v_r.lt
    have q_o := v_o.cells
    have z_o := v_o.froz
    have l_o := v_o.lt
    (try dsimp only)
    repeat (first | go_values | go_skip | go_guarded | go_step | go_upon)
    refine bodyPost_ret (v := .tuple #[.agg #[.slice A b.length c, .int .i64 ((s.at_ : Int) + (k : Int)), .int .i64 s.err], .int .i64 nn]) (by simp [results, Try.results87, go_sem, q_r, l_r, q_o, l_o]) rfl ?_
    refine ⟨?_, by go_grown⟩
    rw [HE.out]; rfl

set_option maxHeartbeats 4000000 in
set_option maxRecDepth 100000 in
theorem refU32_any (A : Option Addr) (n c : Nat) (b : List UInt8) (s : Oct.St) (w : World) (hn : b.length = n) (hr : RdB w w.heap.size A b) (hle : s.at_ ≤ n) (hc : n ≤ c) (hb6 : n ≤ 1000000) :
    Calls Try.prog 70 #[.agg #[.slice A n c, .int .i64 (s.at_ : Int), .int .i64 s.err]] w (RNum .i64 A n c (Oct.u32 b s) w) := by
  have HC := Lib.hid (fun w hr => refUns_any A n c b s w hn hr hle hc hb6)
  have HR := Lib.hid hr
  have hx := u32_lo b s
  obtain ⟨⟨s1, m⟩, hy⟩ : ∃ y, Oct.u32 b s = y := ⟨_, rfl⟩
  rw [hy] at HC hx ⊢
  dsimp only at hx
  obtain ⟨m0, m1⟩ := hx
  have hw := wrap_i64_of m (by omega) (by omega)
  clear hy hr
  go_enter Try.func70, Try.ntmps70
  go_wp2_with fail
  refine at_world (F := fun w' => Var w' (w.heap.size) #[.slice A n c, .int .i64 (s.at_ : Int), .int .i64 s.err] 35 ∧ Var w' (w.heap.size + 1) #[.slice none 0 0, .int .i64 0, .int .i64 0] 35 ∧ Below w.heap.size w w') ⟨(Var.new w _ _).alloc _, Var.new2 w _ _ _, by go_grown⟩ ?_
  rintro w1 ⟨v_r, v_o, bw⟩
  have sz := bw.size
  refine (HC.out _ ((HR.out.below bw).more bw.size)).mono ?_
  rintro e w2 ⟨rfl, hb⟩
  replace v_r := v_r.below hb v_r.lt
  replace v_o := v_o.below hb v_o.lt
  replace bw := bw.trans (hb.mono bw.size)
  replace sz := bw.size
  clear hb
  have q_r := v_r.cells
  have z_r := v_r.froz
  have l_r := v_r.lt
  have q_o := v_o.cells
  have z_o := v_o.froz
  have l_o := v_o.lt
  have d_r_t := v_r.lt
  have d_o_t := v_o.lt
  (try dsimp only)
  repeat (first | go_values | go_skip | go_guarded | go_step | go_upon)
  refine bodyPost_ret (v := .tuple #[.agg #[.slice A n c, .int .i64 (s1.at_ : Int), .int .i64 s1.err], .int .i64 m]) (by simp [results, Try.results70, go_sem, q_r, l_r, q_o, l_o]) rfl ?_
  exact ⟨rfl, by go_grown⟩

set_option maxHeartbeats 4000000 in
set_option maxRecDepth 100000 in
theorem refS33_any (A : Option Addr) (n c : Nat) (b : List UInt8) (s : Oct.St) (w : World) (hn : b.length = n) (hr : RdB w w.heap.size A b) (hle : s.at_ ≤ n) (hc : n ≤ c) (hb6 : n ≤ 1000000) :
    Calls Try.prog 54 #[.agg #[.slice A n c, .int .i64 (s.at_ : Int), .int .i64 s.err]] w (RNum .i64 A n c (Oct.sig b s 33) w) := by
  have HC := Lib.hid (fun w hr => refSig_any A n c b s w hn hr hle hc hb6)
  have HR := Lib.hid hr
  obtain ⟨⟨s1, m⟩, hy⟩ : ∃ y, Oct.sig b s 33 = y := ⟨_, rfl⟩
  rw [hy] at HC ⊢
  clear hy hr
  go_enter Try.func54, Try.ntmps54
  go_wp2_with fail
  refine at_world (F := fun w' => Var w' (w.heap.size) #[.slice A n c, .int .i64 (s.at_ : Int), .int .i64 s.err] 35 ∧ Var w' (w.heap.size + 1) #[.slice none 0 0, .int .i64 0, .int .i64 0] 35 ∧ Below w.heap.size w w') ⟨(Var.new w _ _).alloc _, Var.new2 w _ _ _, by go_grown⟩ ?_
  rintro w1 ⟨v_r, v_o, bw⟩
  have sz := bw.size
  refine (HC.out _ ((HR.out.below bw).more bw.size)).mono ?_
  rintro e w2 ⟨rfl, hb⟩
  replace v_r := v_r.below hb v_r.lt
  replace v_o := v_o.below hb v_o.lt
  replace bw := bw.trans (hb.mono bw.size)
  replace sz := bw.size
  clear hb
  have q_r := v_r.cells
  have z_r := v_r.froz
  have l_r := v_r.lt
  have q_o := v_o.cells
  have z_o := v_o.froz
  have l_o := v_o.lt
  (try dsimp only)
  repeat (first | go_values | go_skip | go_guarded | go_step | go_upon)
  refine bodyPost_ret (v := .tuple #[.agg #[.slice A n c, .int .i64 (s1.at_ : Int), .int .i64 s1.err], .int .i64 m]) (by simp [results, Try.results54, go_sem, q_r, l_r, q_o, l_o]) rfl ?_
  exact ⟨rfl, by go_grown⟩

set_option maxHeartbeats 4000000 in
set_option maxRecDepth 100000 in
theorem refCount_any (A : Option Addr) (n c : Nat) (b : List UInt8) (s : Oct.St) (w : World) (hn : b.length = n) (hr : RdB w w.heap.size A b) (hle : s.at_ ≤ n) (hc : n ≤ c) (hb6 : n ≤ 1000000) (most : Int) :
    Calls Try.prog 99 #[.agg #[.slice A n c, .int .i64 (s.at_ : Int), .int .i64 s.err], .int .i64 most] w (RNum .i64 A n c (Oct.count b s most) w) := by
  have HC := Lib.hid (fun w hr => refU32_any A n c b s w hn hr hle hc hb6)
  have HR := Lib.hid hr
  have HF := Lib.hid (fun w => refFail_any A n c s 6 w)
  unfold Oct.count
  obtain ⟨⟨s1, m⟩, hy⟩ : ∃ y, Oct.u32 b s = y := ⟨_, rfl⟩
  rw [hy] at HC ⊢
  dsimp only
  obtain ⟨s2, hs2⟩ : ∃ s2, s.fail 6 = s2 := ⟨_, rfl⟩
  rw [hs2] at HF ⊢
  clear hy hr hs2
  by_cases h1 : s1.err = 0
  · have g1 : (s1.err == 0) = true := by simpa using h1
    by_cases h2 : most < m
    · have g2 : decide (most < m) = true := by simpa using h2
      rw [if_pos ⟨h1, h2⟩]
      clear h1 h2
      go_enter Try.func99, Try.ntmps99
      go_wp2_with fail
      refine at_world (F := fun w' => Var w' (w.heap.size) #[.slice A n c, .int .i64 (s.at_ : Int), .int .i64 s.err] 35 ∧ Var w' (w.heap.size + 1) #[.slice none 0 0, .int .i64 0, .int .i64 0] 35 ∧ Below w.heap.size w w') ⟨(Var.new w _ _).alloc _, Var.new2 w _ _ _, by go_grown⟩ ?_
      rintro w1 ⟨v_r, v_o, bw⟩
      have sz := bw.size
      refine (HC.out _ ((HR.out.below bw).more bw.size)).mono ?_
      rintro e w2 ⟨rfl, hb⟩
      replace v_r := v_r.below hb v_r.lt
      replace v_o := v_o.below hb v_o.lt
      replace bw := bw.trans (hb.mono bw.size)
      replace sz := bw.size
      clear hb
      have q_r := v_r.cells
      have z_r := v_r.froz
      have l_r := v_r.lt
      have q_o := v_o.cells
      have z_o := v_o.froz
      have l_o := v_o.lt
      have d_r_t := v_r.lt
      have d_o_t := v_o.lt
      go_wp2_with fail
      refine at_world (F := fun w' => Var w' (w.heap.size) #[.slice A n c, .int .i64 (s.at_ : Int), .int .i64 s.err] 35 ∧ Var w' (w.heap.size + 1) #[.slice none 0 0, .int .i64 0, .int .i64 0] 35 ∧ Var w' (w2.heap.size) #[.slice A n c, .int .i64 (s1.at_ : Int), .int .i64 s1.err] 35 ∧ Below w.heap.size w w') ⟨(v_r).alloc _, (v_o).alloc _, Var.newE _ _ _ (by simp), by go_grown⟩ ?_
      clear q_r z_r l_r q_o z_o l_o v_r v_o bw sz
      rintro w3 ⟨v_r, v_o, v_t, bw⟩
      have sz := bw.size
      refine (HF.out _).mono ?_
      rintro e w4 ⟨rfl, hb⟩
      replace v_r := v_r.below hb v_r.lt
      replace v_o := v_o.below hb v_o.lt
      replace v_t := v_t.below hb v_t.lt
      replace bw := bw.trans (hb.mono bw.size)
      replace sz := bw.size
      clear hb
      have q_r := v_r.cells
      have z_r := v_r.froz
      have l_r := v_r.lt
      have q_o := v_o.cells
      have z_o := v_o.froz
      have l_o := v_o.lt
      have q_t := v_t.cells
      have z_t := v_t.froz
      have l_t := v_t.lt
      (try dsimp only)
      repeat (first | go_values | go_skip | go_guarded | go_step | go_upon)
      refine bodyPost_ret (v := .tuple #[.agg #[.slice A n c, .int .i64 (s2.at_ : Int), .int .i64 s2.err], .int .i64 0]) (by simp [results, Try.results99, go_sem, q_r, l_r, q_o, l_o, q_t, l_t]) rfl ?_
      exact ⟨rfl, by go_grown⟩
    · have g2 : decide (most < m) = false := by simpa using h2
      rw [if_neg (fun hh => h2 hh.2)]
      clear h1 h2
      go_enter Try.func99, Try.ntmps99
      go_wp2_with fail
      refine at_world (F := fun w' => Var w' (w.heap.size) #[.slice A n c, .int .i64 (s.at_ : Int), .int .i64 s.err] 35 ∧ Var w' (w.heap.size + 1) #[.slice none 0 0, .int .i64 0, .int .i64 0] 35 ∧ Below w.heap.size w w') ⟨(Var.new w _ _).alloc _, Var.new2 w _ _ _, by go_grown⟩ ?_
      rintro w1 ⟨v_r, v_o, bw⟩
      have sz := bw.size
      refine (HC.out _ ((HR.out.below bw).more bw.size)).mono ?_
      rintro e w2 ⟨rfl, hb⟩
      replace v_r := v_r.below hb v_r.lt
      replace v_o := v_o.below hb v_o.lt
      replace bw := bw.trans (hb.mono bw.size)
      replace sz := bw.size
      clear hb
      have q_r := v_r.cells
      have z_r := v_r.froz
      have l_r := v_r.lt
      have q_o := v_o.cells
      have z_o := v_o.froz
      have l_o := v_o.lt
      have d_r_t := v_r.lt
      have d_o_t := v_o.lt
      (try dsimp only)
      repeat (first | go_values | go_skip | go_guarded | go_step | go_upon)
      refine bodyPost_ret (v := .tuple #[.agg #[.slice A n c, .int .i64 (s1.at_ : Int), .int .i64 s1.err], .int .i64 m]) (by simp [results, Try.results99, go_sem, q_r, l_r, q_o, l_o]) rfl ?_
      exact ⟨rfl, by go_grown⟩
  · have g1 : (s1.err == 0) = false := by simpa using h1
    rw [if_neg (fun hh => h1 hh.1)]
    clear h1
    go_enter Try.func99, Try.ntmps99
    go_wp2_with fail
    refine at_world (F := fun w' => Var w' (w.heap.size) #[.slice A n c, .int .i64 (s.at_ : Int), .int .i64 s.err] 35 ∧ Var w' (w.heap.size + 1) #[.slice none 0 0, .int .i64 0, .int .i64 0] 35 ∧ Below w.heap.size w w') ⟨(Var.new w _ _).alloc _, Var.new2 w _ _ _, by go_grown⟩ ?_
    rintro w1 ⟨v_r, v_o, bw⟩
    have sz := bw.size
    refine (HC.out _ ((HR.out.below bw).more bw.size)).mono ?_
    rintro e w2 ⟨rfl, hb⟩
    replace v_r := v_r.below hb v_r.lt
    replace v_o := v_o.below hb v_o.lt
    replace bw := bw.trans (hb.mono bw.size)
    replace sz := bw.size
    clear hb
    have q_r := v_r.cells
    have z_r := v_r.froz
    have l_r := v_r.lt
    have q_o := v_o.cells
    have z_o := v_o.froz
    have l_o := v_o.lt
    have d_r_t := v_r.lt
    have d_o_t := v_o.lt
    (try dsimp only)
    repeat (first | go_values | go_skip | go_guarded | go_step | go_upon)
    refine bodyPost_ret (v := .tuple #[.agg #[.slice A n c, .int .i64 (s1.at_ : Int), .int .i64 s1.err], .int .i64 m]) (by simp [results, Try.results99, go_sem, q_r, l_r, q_o, l_o]) rfl ?_
    exact ⟨rfl, by go_grown⟩
end Go.Proofs.Ytagcildoebicnaa
