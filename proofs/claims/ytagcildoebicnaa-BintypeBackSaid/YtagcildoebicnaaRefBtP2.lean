/-
  The reference of layer 10: the writes of value, global, block, limits and table types.
-/
import Derived.Test.YtagcildoebicnaaRefBtP
import Derived.Deep.RegionHeld3
set_option linter.unusedVariables false
set_option linter.unusedSimpArgs false
namespace Go.Proofs.Ytagcildoebicnaa
open Go.RowKit

theorem at_code {F : World → Prop} {P : Program} {c : Code} {Q : Exit → Act → World → Prop} {a : Act} {Wx : World} (hf : F Wx) (h : ∀ w, F w → Code.wp P c Q a w) : Code.wp P c Q a Wx := h _ hf
namespace Oct
theorem fail_bytes (s : Wt) (l : List UInt8) : (s.fail 12).bytes l = s.fail 12 := by
  unfold Wt.bytes Wt.fail
  by_cases h : s.err = 0
  · rw [if_pos h]; rfl
  · rw [if_neg h, if_neg h]
theorem putGlobal_eq (s : Wt) (t : Int) (mu : Bool) : putGlobal s t mu = (putVal s t).bytes [if mu then 1 else 0] := by
  unfold putGlobal
  rcases h : Ty.val t with _ | _
  · rw [if_neg (by decide)]; unfold putVal; rw [h, if_neg (by decide), fail_bytes]
  · rw [if_pos rfl]
end Oct
set_option maxHeartbeats 8000000 in
set_option maxRecDepth 100000 in
theorem refPutVal_any (A : Option Addr) (n c : Nat) (s : Oct.Wt) (w : World) (hn : s.b.length = n) (hr : RdB w w.heap.size A s.b) (hlen : s.b.length ≤ 5000000) (t : Int) :
    Calls Try.prog 24 #[.agg #[.slice A n c, .int .i64 s.err], .int .i64 t] w (RPut (Oct.putVal s t) w) := by
  have HR := Lib.hid hr
  have hb8 := ty_byte t
  have HB := Lib.hid (fun w => refByte_any t w)
  have HF := Lib.hid (fun w hr => refPutFail_any A n c s 12 w hn hr)
  have HP := Lib.hid (fun w hr => refPutByte_any A n c s w hn hr (by omega) (Ty.byte t) hb8.1 hb8.2)
  clear hr hb8
  unfold Oct.putVal
  rcases hv : Ty.val t with _ | _
  · rw [if_neg (by decide)]
    rw [hv] at HB
    clear hv
    go_enter Try.func24, Try.ntmps24
    go_wp2_with fail
    refine at_world (F := fun w' => Var w' (w.heap.size) #[.slice A n c, .int .i64 s.err] 41 ∧ Var w' (w.heap.size + 1) #[.slice none 0 0, .int .i64 0] 41 ∧ Below w.heap.size w w') ⟨(Var.new w _ _).alloc _, Var.new2 w _ _ _, by go_grown⟩ ?_
    rintro w1 ⟨v_r, v_o, bw⟩
    have sz := bw.size
    refine (HB.out _).mono ?_
    rintro e w2 ⟨rfl, hb⟩
    replace v_r := v_r.below hb v_r.lt
    replace v_o := v_o.below hb v_o.lt
    replace bw := bw.trans (hb.mono bw.size)
    replace sz := bw.size
    clear hb
    have q_r := v_r.cells
    have z_r := v_r.froz
    have l_r := v_r.lt
    have q_o := v_o.cells
    have z_o := v_o.froz
    have l_o := v_o.lt
    go_wp2_with fail
    refine at_world (F := fun w' => Var w' (w.heap.size) #[.slice A n c, .int .i64 s.err] 41 ∧ Var w' (w.heap.size + 1) #[.slice none 0 0, .int .i64 0] 41 ∧ Below w.heap.size w w') ⟨v_r, v_o, by go_grown⟩ ?_
    clear q_r z_r l_r q_o z_o l_o v_r v_o bw sz
    rintro w3 ⟨v_r, v_o, bw⟩
    have sz := bw.size
    refine (HF.out _ ((HR.out.below bw).more bw.size)).mono ?_
    rintro e w4 ⟨A2, c2, rfl, hA2, hb⟩
    replace v_r := v_r.below hb v_r.lt
    replace v_o := v_o.below hb v_o.lt
    replace bw := bw.trans (hb.mono bw.size)
    replace sz := bw.size
    clear hb
    have q_r := v_r.cells
    have z_r := v_r.froz
    have l_r := v_r.lt
    have q_o := v_o.cells
    have z_o := v_o.froz
    have l_o := v_o.lt
    (try dsimp only)
    repeat (first | go_values | go_skip | go_guarded | go_step | go_upon)
    refine bodyPost_ret (v := .agg #[.slice A2 (s.fail 12).b.length c2, .int .i64 (s.fail 12).err]) (by simp [results, Try.results24, go_sem, q_r, l_r, q_o, l_o]) rfl ?_
    exact ⟨A2, c2, rfl, ((hA2.set (fun hp ad hA => hA2.ne_var v_o (noW _ _ _ _) hp hA) 0 _).set (fun hp ad hA => hA2.ne_var v_o (noW _ _ _ _) hp hA) 1 _).more (by go_size), by go_grown⟩
  · rw [if_pos rfl]
    rw [hv] at HB
    clear hv
    go_enter Try.func24, Try.ntmps24
    go_wp2_with fail
    refine at_world (F := fun w' => Var w' (w.heap.size) #[.slice A n c, .int .i64 s.err] 41 ∧ Var w' (w.heap.size + 1) #[.slice none 0 0, .int .i64 0] 41 ∧ Below w.heap.size w w') ⟨(Var.new w _ _).alloc _, Var.new2 w _ _ _, by go_grown⟩ ?_
    rintro w1 ⟨v_r, v_o, bw⟩
    have sz := bw.size
    refine (HB.out _).mono ?_
    rintro e w2 ⟨rfl, hb⟩
    replace v_r := v_r.below hb v_r.lt
    replace v_o := v_o.below hb v_o.lt
    replace bw := bw.trans (hb.mono bw.size)
    replace sz := bw.size
    clear hb
    have q_r := v_r.cells
    have z_r := v_r.froz
    have l_r := v_r.lt
    have q_o := v_o.cells
    have z_o := v_o.froz
    have l_o := v_o.lt
    go_wp2_with fail
    refine at_world (F := fun w' => Var w' (w.heap.size) #[.slice A n c, .int .i64 s.err] 41 ∧ Var w' (w.heap.size + 1) #[.slice none 0 0, .int .i64 0] 41 ∧ Below w.heap.size w w') ⟨v_r, v_o, by go_grown⟩ ?_
    clear q_r z_r l_r q_o z_o l_o v_r v_o bw sz
    rintro w3 ⟨v_r, v_o, bw⟩
    have sz := bw.size
    refine (HP.out _ ((HR.out.below bw).more bw.size)).mono ?_
    rintro e w4 ⟨A2, c2, rfl, hA2, hb⟩
    replace v_r := v_r.below hb v_r.lt
    replace v_o := v_o.below hb v_o.lt
    replace bw := bw.trans (hb.mono bw.size)
    replace sz := bw.size
    clear hb
    have q_r := v_r.cells
    have z_r := v_r.froz
    have l_r := v_r.lt
    have q_o := v_o.cells
    have z_o := v_o.froz
    have l_o := v_o.lt
    (try dsimp only)
    repeat (first | go_values | go_skip | go_guarded | go_step | go_upon)
    refine bodyPost_ret (v := .agg #[.slice A2 (s.bytes [Oct.b8 (Ty.byte t)]).b.length c2, .int .i64 (s.bytes [Oct.b8 (Ty.byte t)]).err]) (by simp [results, Try.results24, go_sem, q_r, l_r, q_o, l_o]) rfl ?_
    exact ⟨A2, c2, rfl, ((hA2.set (fun hp ad hA => hA2.ne_var v_o (noW _ _ _ _) hp hA) 0 _).set (fun hp ad hA => hA2.ne_var v_o (noW _ _ _ _) hp hA) 1 _).more (by go_size), by go_grown⟩

set_option maxHeartbeats 8000000 in
set_option maxRecDepth 100000 in
theorem refPutGlobal_any (A : Option Addr) (n c : Nat) (s : Oct.Wt) (w : World) (hn : s.b.length = n) (hr : RdB w w.heap.size A s.b) (hlen : s.b.length ≤ 5000000) (t : Int) (mu : Bool) :
    Calls Try.prog 36 #[.agg #[.slice A n c, .int .i64 s.err], .agg #[.int .i64 t, .bool mu]] w (RPut (Oct.putGlobal s t mu) w) := by
  rw [Oct.putGlobal_eq]
  have HR := Lib.hid hr
  have HV := Lib.hid (fun w hr => refPutVal_any A n c s w hn hr (by omega) t)
  have HL := Lib.hid (show (Oct.putVal s t).b.length ≤ 9000000 by have := Oct.putVal_len s t; omega)
  generalize Oct.putVal s t = s1 at HV HL ⊢
  have HP0 := Lib.hid (fun (A : Option Addr) c w hr => refPutByte_any A _ c s1 w rfl hr HL.out 0 (by decide) (by decide))
  have HP1 := Lib.hid (fun (A : Option Addr) c w hr => refPutByte_any A _ c s1 w rfl hr HL.out 1 (by decide) (by decide))
  clear hr HL
  rcases mu with _ | _
  · rw [show (if false then (1 : UInt8) else 0) = Oct.b8 0 from rfl]
    go_enter Try.func36, Try.ntmps36
    go_wp2_with fail
    refine at_world (F := fun w' => Var w' (w.heap.size) #[.slice A n c, .int .i64 s.err] 41 ∧ Var w' (w.heap.size + 1) #[.int .i64 t, .bool false] 67 ∧ Var w' (w.heap.size + 2) #[.slice none 0 0, .int .i64 0] 41 ∧ Below w.heap.size w w') ⟨((Var.new w _ _).alloc _).alloc _, (Var.new2 w _ _ _).alloc _, Var.new3 w _ _ _ _, by go_grown⟩ ?_
    rintro w1 ⟨v_r, v_g, v_o, bw⟩
    have sz := bw.size
    refine (HV.out _ ((HR.out.below bw).more bw.size)).mono ?_
    rintro e w2 ⟨A1, c1, rfl, hA1, hb⟩
    replace v_r := v_r.below hb v_r.lt
    replace v_g := v_g.below hb v_g.lt
    replace v_o := v_o.below hb v_o.lt
    replace bw := bw.trans (hb.mono bw.size)
    replace sz := bw.size
    clear hb
    have q_r := v_r.cells
    have z_r := v_r.froz
    have l_r := v_r.lt
    have q_g := v_g.cells
    have z_g := v_g.froz
    have l_g := v_g.lt
    have q_o := v_o.cells
    have z_o := v_o.froz
    have l_o := v_o.lt
    go_wp2_with fail
    refine at_world (F := fun w' => Var w' (w.heap.size) #[.slice A1 s1.b.length c1, .int .i64 s1.err] 41 ∧ Var w' (w.heap.size + 1) #[.int .i64 t, .bool false] 67 ∧ Var w' (w.heap.size + 2) #[.slice none 0 0, .int .i64 0] 41 ∧ RdB w' w'.heap.size A1 s1.b ∧ Below w.heap.size w w') ⟨((v_r).set 0 _).set 1 _, ((v_g).other (by omega) 0 _).other (by omega) 1 _, ((v_o).other (by omega) 0 _).other (by omega) 1 _, ((hA1.set (fun hp ad hA => hA1.ne_var v_r (noW _ _ _ _) hp hA) 0 _).set (fun hp ad hA => hA1.ne_var v_r (noW _ _ _ _) hp hA) 1 _).more (by go_size), by go_grown⟩ ?_
    clear q_r z_r l_r q_g z_g l_g q_o z_o l_o v_r v_g v_o bw sz
    rintro w3 ⟨v_r, v_g, v_o, hA1x, bw⟩
    have sz := bw.size
    refine (HP0.out _ _ _ hA1x).mono ?_
    rintro e w4 ⟨A2, c2, rfl, hA2, hb⟩
    replace v_r := v_r.below hb v_r.lt
    replace v_g := v_g.below hb v_g.lt
    replace v_o := v_o.below hb v_o.lt
    replace bw := bw.trans (hb.mono bw.size)
    replace sz := bw.size
    clear hb
    have q_r := v_r.cells
    have z_r := v_r.froz
    have l_r := v_r.lt
    have q_g := v_g.cells
    have z_g := v_g.froz
    have l_g := v_g.lt
    have q_o := v_o.cells
    have z_o := v_o.froz
    have l_o := v_o.lt
    (try dsimp only)
    repeat (first | go_values | go_skip | go_guarded | go_step | go_upon)
    refine bodyPost_ret (v := .agg #[.slice A2 (s1.bytes [Oct.b8 0]).b.length c2, .int .i64 (s1.bytes [Oct.b8 0]).err]) (by simp [results, Try.results36, go_sem, q_r, l_r, q_g, l_g, q_o, l_o]) rfl ?_
    exact ⟨A2, c2, rfl, ((hA2.set (fun hp ad hA => hA2.ne_var v_o (noW _ _ _ _) hp hA) 0 _).set (fun hp ad hA => hA2.ne_var v_o (noW _ _ _ _) hp hA) 1 _).more (by go_size), by go_grown⟩
  · rw [show (if true then (1 : UInt8) else 0) = Oct.b8 1 from rfl]
    go_enter Try.func36, Try.ntmps36
    go_wp2_with fail
    refine at_world (F := fun w' => Var w' (w.heap.size) #[.slice A n c, .int .i64 s.err] 41 ∧ Var w' (w.heap.size + 1) #[.int .i64 t, .bool true] 67 ∧ Var w' (w.heap.size + 2) #[.slice none 0 0, .int .i64 0] 41 ∧ Below w.heap.size w w') ⟨((Var.new w _ _).alloc _).alloc _, (Var.new2 w _ _ _).alloc _, Var.new3 w _ _ _ _, by go_grown⟩ ?_
    rintro w1 ⟨v_r, v_g, v_o, bw⟩
    have sz := bw.size
    refine (HV.out _ ((HR.out.below bw).more bw.size)).mono ?_
    rintro e w2 ⟨A1, c1, rfl, hA1, hb⟩
    replace v_r := v_r.below hb v_r.lt
    replace v_g := v_g.below hb v_g.lt
    replace v_o := v_o.below hb v_o.lt
    replace bw := bw.trans (hb.mono bw.size)
    replace sz := bw.size
    clear hb
    have q_r := v_r.cells
    have z_r := v_r.froz
    have l_r := v_r.lt
    have q_g := v_g.cells
    have z_g := v_g.froz
    have l_g := v_g.lt
    have q_o := v_o.cells
    have z_o := v_o.froz
    have l_o := v_o.lt
    go_wp2_with fail
    refine at_world (F := fun w' => Var w' (w.heap.size) #[.slice A1 s1.b.length c1, .int .i64 s1.err] 41 ∧ Var w' (w.heap.size + 1) #[.int .i64 t, .bool true] 67 ∧ Var w' (w.heap.size + 2) #[.slice none 0 0, .int .i64 0] 41 ∧ RdB w' w'.heap.size A1 s1.b ∧ Below w.heap.size w w') ⟨((v_r).set 0 _).set 1 _, ((v_g).other (by omega) 0 _).other (by omega) 1 _, ((v_o).other (by omega) 0 _).other (by omega) 1 _, ((hA1.set (fun hp ad hA => hA1.ne_var v_r (noW _ _ _ _) hp hA) 0 _).set (fun hp ad hA => hA1.ne_var v_r (noW _ _ _ _) hp hA) 1 _).more (by go_size), by go_grown⟩ ?_
    clear q_r z_r l_r q_g z_g l_g q_o z_o l_o v_r v_g v_o bw sz
    rintro w3 ⟨v_r, v_g, v_o, hA1x, bw⟩
    have sz := bw.size
    refine (HP1.out _ _ _ hA1x).mono ?_
    rintro e w4 ⟨A2, c2, rfl, hA2, hb⟩
    replace v_r := v_r.below hb v_r.lt
    replace v_g := v_g.below hb v_g.lt
    replace v_o := v_o.below hb v_o.lt
    replace bw := bw.trans (hb.mono bw.size)
    replace sz := bw.size
    clear hb
    have q_r := v_r.cells
    have z_r := v_r.froz
    have l_r := v_r.lt
    have q_g := v_g.cells
    have z_g := v_g.froz
    have l_g := v_g.lt
    have q_o := v_o.cells
    have z_o := v_o.froz
    have l_o := v_o.lt
    (try dsimp only)
    repeat (first | go_values | go_skip | go_guarded | go_step | go_upon)
    refine bodyPost_ret (v := .agg #[.slice A2 (s1.bytes [Oct.b8 1]).b.length c2, .int .i64 (s1.bytes [Oct.b8 1]).err]) (by simp [results, Try.results36, go_sem, q_r, l_r, q_g, l_g, q_o, l_o]) rfl ?_
    exact ⟨A2, c2, rfl, ((hA2.set (fun hp ad hA => hA2.ne_var v_o (noW _ _ _ _) hp hA) 0 _).set (fun hp ad hA => hA2.ne_var v_o (noW _ _ _ _) hp hA) 1 _).more (by go_size), by go_grown⟩

set_option maxHeartbeats 8000000 in
set_option maxRecDepth 100000 in
theorem refPutBlock_any (A : Option Addr) (n c : Nat) (s : Oct.Wt) (w : World) (hn : s.b.length = n) (hr : RdB w w.heap.size A s.b) (hlen : s.b.length ≤ 5000000) (x : Oct.Blk) :
    Calls Try.prog 19 #[.agg #[.slice A n c, .int .i64 s.err], .agg #[.int .i64 x.kind, .int .i64 x.val, .int .i64 x.idx]] w (RPut (Oct.putBlock s x) w) := by
  have HR := Lib.hid hr
  have HK := Lib.hid (fun w => refBlock_any x w)
  unfold Oct.putBlock
  obtain ⟨ok, hok⟩ : ∃ y, Oct.blkOk x = y := ⟨_, rfl⟩
  rw [hok] at HK ⊢
  have hkinds : ok = true → x.kind = 0 ∨ x.kind = 1 ∨ x.kind = 2 := by
    intro h
    rw [h] at hok
    unfold Oct.blkOk at hok
    simp at hok
    omega
  clear hok
  obtain ⟨k, t, i⟩ := x
  dsimp only at hkinds HK ⊢
  have HF := Lib.hid (fun w hr => refPutFail_any A n c s 12 w hn hr)
  have HP := Lib.hid (fun w hr => refPutByte_any A n c s w hn hr (by omega) 64 (by decide) (by decide))
  have HV := Lib.hid (fun w hr => refPutVal_any A n c s w hn hr (by omega) t)
  have HS := Lib.hid (fun w hr => refPutS33_any A n c s w hn hr (by omega) i)
  clear hr
  rcases ok with _ | _
  · rw [if_neg (by decide)]
    clear hkinds
    go_enter Try.func19, Try.ntmps19
    go_wp2_with fail
    refine at_world (F := fun w' => Var w' (w.heap.size) #[.slice A n c, .int .i64 s.err] 41 ∧ Var w' (w.heap.size + 1) #[.int .i64 k, .int .i64 t, .int .i64 i] 25 ∧ Var w' (w.heap.size + 2) #[.slice none 0 0, .int .i64 0] 41 ∧ Below w.heap.size w w') ⟨((Var.new w _ _).alloc _).alloc _, (Var.new2 w _ _ _).alloc _, Var.new3 w _ _ _ _, by go_grown⟩ ?_
    rintro w1 ⟨v_r, v_x, v_o, bw⟩
    have sz := bw.size
    refine (HK.out _).mono ?_
    rintro e w2 ⟨rfl, hb⟩
    replace v_r := v_r.below hb v_r.lt
    replace v_x := v_x.below hb v_x.lt
    replace v_o := v_o.below hb v_o.lt
    replace bw := bw.trans (hb.mono bw.size)
    replace sz := bw.size
    clear hb
    have q_r := v_r.cells
    have z_r := v_r.froz
    have l_r := v_r.lt
    have q_x := v_x.cells
    have z_x := v_x.froz
    have l_x := v_x.lt
    have q_o := v_o.cells
    have z_o := v_o.froz
    have l_o := v_o.lt
    go_wp2_with fail
    refine at_world (F := fun w' => Var w' (w.heap.size) #[.slice A n c, .int .i64 s.err] 41 ∧ Var w' (w.heap.size + 1) #[.int .i64 k, .int .i64 t, .int .i64 i] 25 ∧ Var w' (w.heap.size + 2) #[.slice none 0 0, .int .i64 0] 41 ∧ Below w.heap.size w w') ⟨v_r, v_x, v_o, by go_grown⟩ ?_
    clear q_r z_r l_r q_x z_x l_x q_o z_o l_o v_r v_x v_o bw sz
    rintro w3 ⟨v_r, v_x, v_o, bw⟩
    have sz := bw.size
    refine (HF.out _ ((HR.out.below bw).more bw.size)).mono ?_
    rintro e w4 ⟨A2, c2, rfl, hA2, hb⟩
    replace v_r := v_r.below hb v_r.lt
    replace v_x := v_x.below hb v_x.lt
    replace v_o := v_o.below hb v_o.lt
    replace bw := bw.trans (hb.mono bw.size)
    replace sz := bw.size
    clear hb
    have q_r := v_r.cells
    have z_r := v_r.froz
    have l_r := v_r.lt
    have q_x := v_x.cells
    have z_x := v_x.froz
    have l_x := v_x.lt
    have q_o := v_o.cells
    have z_o := v_o.froz
    have l_o := v_o.lt
    (try dsimp only)
    repeat (first | go_values | go_skip | go_guarded | go_step | go_upon)
    refine bodyPost_ret (v := .agg #[.slice A2 (s.fail 12).b.length c2, .int .i64 (s.fail 12).err]) (by simp [results, Try.results19, go_sem, q_r, l_r, q_x, l_x, q_o, l_o]) rfl ?_
    exact ⟨A2, c2, rfl, ((hA2.set (fun hp ad hA => hA2.ne_var v_o (noW _ _ _ _) hp hA) 0 _).set (fun hp ad hA => hA2.ne_var v_o (noW _ _ _ _) hp hA) 1 _).more (by go_size), by go_grown⟩
  · rw [if_pos rfl]
    rcases hkinds rfl with h | h | h
    all_goals
      subst h
      clear hkinds
    · rw [if_pos rfl, show s.bytes [64] = s.bytes [Oct.b8 64] from rfl]
      go_enter Try.func19, Try.ntmps19
      go_wp2_with fail
      refine at_world (F := fun w' => Var w' (w.heap.size) #[.slice A n c, .int .i64 s.err] 41 ∧ Var w' (w.heap.size + 1) #[.int .i64 0, .int .i64 t, .int .i64 i] 25 ∧ Var w' (w.heap.size + 2) #[.slice none 0 0, .int .i64 0] 41 ∧ Below w.heap.size w w') ⟨((Var.new w _ _).alloc _).alloc _, (Var.new2 w _ _ _).alloc _, Var.new3 w _ _ _ _, by go_grown⟩ ?_
      rintro w1 ⟨v_r, v_x, v_o, bw⟩
      have sz := bw.size
      refine (HK.out _).mono ?_
      rintro e w2 ⟨rfl, hb⟩
      replace v_r := v_r.below hb v_r.lt
      replace v_x := v_x.below hb v_x.lt
      replace v_o := v_o.below hb v_o.lt
      replace bw := bw.trans (hb.mono bw.size)
      replace sz := bw.size
      clear hb
      have q_r := v_r.cells
      have z_r := v_r.froz
      have l_r := v_r.lt
      have q_x := v_x.cells
      have z_x := v_x.froz
      have l_x := v_x.lt
      have q_o := v_o.cells
      have z_o := v_o.froz
      have l_o := v_o.lt
      go_wp2_with fail
      refine at_world (F := fun w' => Var w' (w.heap.size) #[.slice A n c, .int .i64 s.err] 41 ∧ Var w' (w.heap.size + 1) #[.int .i64 0, .int .i64 t, .int .i64 i] 25 ∧ Var w' (w.heap.size + 2) #[.slice none 0 0, .int .i64 0] 41 ∧ Below w.heap.size w w') ⟨v_r, v_x, v_o, by go_grown⟩ ?_
      clear q_r z_r l_r q_x z_x l_x q_o z_o l_o v_r v_x v_o bw sz
      rintro w3 ⟨v_r, v_x, v_o, bw⟩
      have sz := bw.size
      refine (HP.out _ ((HR.out.below bw).more bw.size)).mono ?_
      rintro e w4 ⟨A2, c2, rfl, hA2, hb⟩
      replace v_r := v_r.below hb v_r.lt
      replace v_x := v_x.below hb v_x.lt
      replace v_o := v_o.below hb v_o.lt
      replace bw := bw.trans (hb.mono bw.size)
      replace sz := bw.size
      clear hb
      have q_r := v_r.cells
      have z_r := v_r.froz
      have l_r := v_r.lt
      have q_x := v_x.cells
      have z_x := v_x.froz
      have l_x := v_x.lt
      have q_o := v_o.cells
      have z_o := v_o.froz
      have l_o := v_o.lt
      (try dsimp only)
      repeat (first | go_values | go_skip | go_guarded | go_step | go_upon)
      refine bodyPost_ret (v := .agg #[.slice A2 (s.bytes [Oct.b8 64]).b.length c2, .int .i64 (s.bytes [Oct.b8 64]).err]) (by simp [results, Try.results19, go_sem, q_r, l_r, q_x, l_x, q_o, l_o]) rfl ?_
      exact ⟨A2, c2, rfl, ((hA2.set (fun hp ad hA => hA2.ne_var v_o (noW _ _ _ _) hp hA) 0 _).set (fun hp ad hA => hA2.ne_var v_o (noW _ _ _ _) hp hA) 1 _).more (by go_size), by go_grown⟩
    · rw [if_neg (by decide), if_pos rfl]
      go_enter Try.func19, Try.ntmps19
      go_wp2_with fail
      refine at_world (F := fun w' => Var w' (w.heap.size) #[.slice A n c, .int .i64 s.err] 41 ∧ Var w' (w.heap.size + 1) #[.int .i64 1, .int .i64 t, .int .i64 i] 25 ∧ Var w' (w.heap.size + 2) #[.slice none 0 0, .int .i64 0] 41 ∧ Below w.heap.size w w') ⟨((Var.new w _ _).alloc _).alloc _, (Var.new2 w _ _ _).alloc _, Var.new3 w _ _ _ _, by go_grown⟩ ?_
      rintro w1 ⟨v_r, v_x, v_o, bw⟩
      have sz := bw.size
      refine (HK.out _).mono ?_
      rintro e w2 ⟨rfl, hb⟩
      replace v_r := v_r.below hb v_r.lt
      replace v_x := v_x.below hb v_x.lt
      replace v_o := v_o.below hb v_o.lt
      replace bw := bw.trans (hb.mono bw.size)
      replace sz := bw.size
      clear hb
      have q_r := v_r.cells
      have z_r := v_r.froz
      have l_r := v_r.lt
      have q_x := v_x.cells
      have z_x := v_x.froz
      have l_x := v_x.lt
      have q_o := v_o.cells
      have z_o := v_o.froz
      have l_o := v_o.lt
      go_wp2_with fail
      refine at_world (F := fun w' => Var w' (w.heap.size) #[.slice A n c, .int .i64 s.err] 41 ∧ Var w' (w.heap.size + 1) #[.int .i64 1, .int .i64 t, .int .i64 i] 25 ∧ Var w' (w.heap.size + 2) #[.slice none 0 0, .int .i64 0] 41 ∧ Below w.heap.size w w') ⟨v_r, v_x, v_o, by go_grown⟩ ?_
      clear q_r z_r l_r q_x z_x l_x q_o z_o l_o v_r v_x v_o bw sz
      rintro w3 ⟨v_r, v_x, v_o, bw⟩
      have sz := bw.size
      refine (HV.out _ ((HR.out.below bw).more bw.size)).mono ?_
      rintro e w4 ⟨A2, c2, rfl, hA2, hb⟩
      replace v_r := v_r.below hb v_r.lt
      replace v_x := v_x.below hb v_x.lt
      replace v_o := v_o.below hb v_o.lt
      replace bw := bw.trans (hb.mono bw.size)
      replace sz := bw.size
      clear hb
      have q_r := v_r.cells
      have z_r := v_r.froz
      have l_r := v_r.lt
      have q_x := v_x.cells
      have z_x := v_x.froz
      have l_x := v_x.lt
      have q_o := v_o.cells
      have z_o := v_o.froz
      have l_o := v_o.lt
      (try dsimp only)
      repeat (first | go_values | go_skip | go_guarded | go_step | go_upon)
      refine bodyPost_ret (v := .agg #[.slice A2 (Oct.putVal s t).b.length c2, .int .i64 (Oct.putVal s t).err]) (by simp [results, Try.results19, go_sem, q_r, l_r, q_x, l_x, q_o, l_o]) rfl ?_
      exact ⟨A2, c2, rfl, ((hA2.set (fun hp ad hA => hA2.ne_var v_o (noW _ _ _ _) hp hA) 0 _).set (fun hp ad hA => hA2.ne_var v_o (noW _ _ _ _) hp hA) 1 _).more (by go_size), by go_grown⟩
    · rw [if_neg (by decide), if_neg (by decide)]
      go_enter Try.func19, Try.ntmps19
      go_wp2_with fail
      refine at_world (F := fun w' => Var w' (w.heap.size) #[.slice A n c, .int .i64 s.err] 41 ∧ Var w' (w.heap.size + 1) #[.int .i64 2, .int .i64 t, .int .i64 i] 25 ∧ Var w' (w.heap.size + 2) #[.slice none 0 0, .int .i64 0] 41 ∧ Below w.heap.size w w') ⟨((Var.new w _ _).alloc _).alloc _, (Var.new2 w _ _ _).alloc _, Var.new3 w _ _ _ _, by go_grown⟩ ?_
      rintro w1 ⟨v_r, v_x, v_o, bw⟩
      have sz := bw.size
      refine (HK.out _).mono ?_
      rintro e w2 ⟨rfl, hb⟩
      replace v_r := v_r.below hb v_r.lt
      replace v_x := v_x.below hb v_x.lt
      replace v_o := v_o.below hb v_o.lt
      replace bw := bw.trans (hb.mono bw.size)
      replace sz := bw.size
      clear hb
      have q_r := v_r.cells
      have z_r := v_r.froz
      have l_r := v_r.lt
      have q_x := v_x.cells
      have z_x := v_x.froz
      have l_x := v_x.lt
      have q_o := v_o.cells
      have z_o := v_o.froz
      have l_o := v_o.lt
      go_wp2_with fail
      refine at_world (F := fun w' => Var w' (w.heap.size) #[.slice A n c, .int .i64 s.err] 41 ∧ Var w' (w.heap.size + 1) #[.int .i64 2, .int .i64 t, .int .i64 i] 25 ∧ Var w' (w.heap.size + 2) #[.slice none 0 0, .int .i64 0] 41 ∧ Below w.heap.size w w') ⟨v_r, v_x, v_o, by go_grown⟩ ?_
      clear q_r z_r l_r q_x z_x l_x q_o z_o l_o v_r v_x v_o bw sz
      rintro w3 ⟨v_r, v_x, v_o, bw⟩
      have sz := bw.size
      refine (HS.out _ ((HR.out.below bw).more bw.size)).mono ?_
      rintro e w4 ⟨A2, c2, rfl, hA2, hb⟩
      replace v_r := v_r.below hb v_r.lt
      replace v_x := v_x.below hb v_x.lt
      replace v_o := v_o.below hb v_o.lt
      replace bw := bw.trans (hb.mono bw.size)
      replace sz := bw.size
      clear hb
      have q_r := v_r.cells
      have z_r := v_r.froz
      have l_r := v_r.lt
      have q_x := v_x.cells
      have z_x := v_x.froz
      have l_x := v_x.lt
      have q_o := v_o.cells
      have z_o := v_o.froz
      have l_o := v_o.lt
      (try dsimp only)
      repeat (first | go_values | go_skip | go_guarded | go_step | go_upon)
      refine bodyPost_ret (v := .agg #[.slice A2 (Oct.putS33 s i).b.length c2, .int .i64 (Oct.putS33 s i).err]) (by simp [results, Try.results19, go_sem, q_r, l_r, q_x, l_x, q_o, l_o]) rfl ?_
      exact ⟨A2, c2, rfl, ((hA2.set (fun hp ad hA => hA2.ne_var v_o (noW _ _ _ _) hp hA) 0 _).set (fun hp ad hA => hA2.ne_var v_o (noW _ _ _ _) hp hA) 1 _).more (by go_size), by go_grown⟩

set_option maxHeartbeats 8000000 in
set_option maxRecDepth 100000 in
theorem refPutLim_any (A : Option Addr) (n c : Nat) (s : Oct.Wt) (w : World) (hn : s.b.length = n) (hr : RdB w w.heap.size A s.b) (hlen : s.b.length ≤ 5000000) (l : Oct.Lim) :
    Calls Try.prog 31 #[.agg #[.slice A n c, .int .i64 s.err], .agg #[.int .i64 l.mn, .int .i64 l.mx, .bool l.has]] w (RPut (Oct.putLim s l) w) := by
  have HR := Lib.hid hr
  have HK := Lib.hid (fun w => refLimits_any l w)
  unfold Oct.putLim
  obtain ⟨ok, hok⟩ : ∃ y, Oct.limOk l = y := ⟨_, rfl⟩
  rw [hok] at HK ⊢
  clear hok
  obtain ⟨mn, mx, has⟩ := l
  dsimp only at HK ⊢
  have HF := Lib.hid (fun w hr => refPutFail_any A n c s 20 w hn hr)
  have hl0 := Oct.bytes_len s [Oct.b8 0]
  have hl1 := Oct.bytes_len s [Oct.b8 1]
  have hl2 := Oct.putU32_len (s.bytes [Oct.b8 1]) mn
  simp at hl0 hl1
  clear hr
  rcases ok with _ | _
  · rw [if_neg (by decide)]
    go_enter Try.func31, Try.ntmps31
    go_wp2_with fail
    refine at_world (F := fun w' => Var w' (w.heap.size) #[.slice A n c, .int .i64 s.err] 41 ∧ Var w' (w.heap.size + 1) #[.int .i64 mn, .int .i64 mx, .bool has] 52 ∧ Var w' (w.heap.size + 2) #[.slice none 0 0, .int .i64 0] 41 ∧ Below w.heap.size w w') ⟨((Var.new w _ _).alloc _).alloc _, (Var.new2 w _ _ _).alloc _, Var.new3 w _ _ _ _, by go_grown⟩ ?_
    rintro w1 ⟨v_r, v_l, v_o, bw⟩
    have sz := bw.size
    refine (HK.out _).mono ?_
    rintro e w2 ⟨rfl, hb⟩
    replace v_r := v_r.below hb v_r.lt
    replace v_l := v_l.below hb v_l.lt
    replace v_o := v_o.below hb v_o.lt
    replace bw := bw.trans (hb.mono bw.size)
    replace sz := bw.size
    clear hb
    have q_r := v_r.cells
    have z_r := v_r.froz
    have l_r := v_r.lt
    have q_l := v_l.cells
    have z_l := v_l.froz
    have l_l := v_l.lt
    have q_o := v_o.cells
    have z_o := v_o.froz
    have l_o := v_o.lt
    go_wp2_with fail
    refine at_world (F := fun w' => Var w' (w.heap.size) #[.slice A n c, .int .i64 s.err] 41 ∧ Var w' (w.heap.size + 1) #[.int .i64 mn, .int .i64 mx, .bool has] 52 ∧ Var w' (w.heap.size + 2) #[.slice none 0 0, .int .i64 0] 41 ∧ Below w.heap.size w w') ⟨v_r, v_l, v_o, by go_grown⟩ ?_
    clear q_r z_r l_r q_l z_l l_l q_o z_o l_o v_r v_l v_o bw sz
    rintro w3 ⟨v_r, v_l, v_o, bw⟩
    have sz := bw.size
    refine (HF.out _ ((HR.out.below bw).more bw.size)).mono ?_
    rintro e w4 ⟨A2, c2, rfl, hA2, hb⟩
    replace v_r := v_r.below hb v_r.lt
    replace v_l := v_l.below hb v_l.lt
    replace v_o := v_o.below hb v_o.lt
    replace bw := bw.trans (hb.mono bw.size)
    replace sz := bw.size
    clear hb
    have q_r := v_r.cells
    have z_r := v_r.froz
    have l_r := v_r.lt
    have q_l := v_l.cells
    have z_l := v_l.froz
    have l_l := v_l.lt
    have q_o := v_o.cells
    have z_o := v_o.froz
    have l_o := v_o.lt
    (try dsimp only)
    repeat (first | go_values | go_skip | go_guarded | go_step | go_upon)
    refine bodyPost_ret (v := .agg #[.slice A2 (s.fail 20).b.length c2, .int .i64 (s.fail 20).err]) (by simp [results, Try.results31, go_sem, q_r, l_r, q_l, l_l, q_o, l_o]) rfl ?_
    exact ⟨A2, c2, rfl, ((hA2.set (fun hp ad hA => hA2.ne_var v_o (noW _ _ _ _) hp hA) 0 _).set (fun hp ad hA => hA2.ne_var v_o (noW _ _ _ _) hp hA) 1 _).more (by go_size), by go_grown⟩
  · rw [if_pos rfl]
    rcases has with _ | _
    · rw [if_neg (by decide), show s.bytes [0] = s.bytes [Oct.b8 0] from rfl]
      go_enter Try.func31, Try.ntmps31
      go_wp2_with fail
      refine at_world (F := fun w' => Var w' (w.heap.size) #[.slice A n c, .int .i64 s.err] 41 ∧ Var w' (w.heap.size + 1) #[.int .i64 mn, .int .i64 mx, .bool false] 52 ∧ Var w' (w.heap.size + 2) #[.slice none 0 0, .int .i64 0] 41 ∧ Below w.heap.size w w') ⟨((Var.new w _ _).alloc _).alloc _, (Var.new2 w _ _ _).alloc _, Var.new3 w _ _ _ _, by go_grown⟩ ?_
      rintro w1 ⟨v_r, v_l, v_o, bw⟩
      have sz := bw.size
      refine (HK.out _).mono ?_
      rintro e w2 ⟨rfl, hb⟩
      replace v_r := v_r.below hb v_r.lt
      replace v_l := v_l.below hb v_l.lt
      replace v_o := v_o.below hb v_o.lt
      replace bw := bw.trans (hb.mono bw.size)
      replace sz := bw.size
      clear hb
      have q_r := v_r.cells
      have z_r := v_r.froz
      have l_r := v_r.lt
      have q_l := v_l.cells
      have z_l := v_l.froz
      have l_l := v_l.lt
      have q_o := v_o.cells
      have z_o := v_o.froz
      have l_o := v_o.lt
      go_wp2_with fail
      refine at_code (F := fun w' => Var w' (w.heap.size) #[.slice A n c, .int .i64 s.err] 41 ∧ Var w' (w.heap.size + 1) #[.int .i64 mn, .int .i64 mx, .bool false] 52 ∧ Var w' (w.heap.size + 2) #[.slice none 0 0, .int .i64 0] 41 ∧ Below w.heap.size w w') ⟨v_r, v_l, v_o, by go_grown⟩ ?_
      clear q_r z_r l_r v_r q_l z_l l_l v_l q_o z_o l_o v_o bw sz
      rintro W0 ⟨v_r, v_l, v_o, bw⟩
      have sz := bw.size
      have szd : w.heap.size ≤ W0.drew.heap.size := sz
      have c_r0 : W0.cell? ⟨w.heap.size, 0, none⟩ = some (.slice A n c) := v_r.cells 0
      have c_r1 : W0.cell? ⟨w.heap.size, 1, none⟩ = some (.int .i64 s.err) := v_r.cells 1
      have c_l0 : W0.cell? ⟨w.heap.size + 1, 0, none⟩ = some (.int .i64 mn) := v_l.cells 0
      have c_o0 : W0.cell? ⟨w.heap.size + 2, 0, none⟩ = some (.slice none 0 0) := v_o.cells 0
      have c_o1 : W0.cell? ⟨w.heap.size + 2, 1, none⟩ = some (.int .i64 0) := v_o.cells 1
      have z_o := v_o.froz
      (try simp only [Nat.add_assoc, Nat.reduceAdd])
      go_region_held3 (fun w' => w'.cell? ⟨w.heap.size, 0, none⟩ = some (.slice A n c) ∧ w'.cell? ⟨w.heap.size, 1, none⟩ = some (.int .i64 s.err) ∧ w'.cell? ⟨w.heap.size + 1, 0, none⟩ = some (.int .i64 mn))
        (go_keep)
        (first
          | (go_at_call 60; ((with_reducible refine (refPutByte_any A n c s _ hn ((HR.out.below bw.drew).more szd) (by omega) 0 (by decide) (by decide)).mono ?_); rintro e w20 ⟨A1, c1, rfl, hA1, hb⟩); replace v_r := (Var.drew v_r).below hb v_r.lt; replace v_l := (Var.drew v_l).below hb v_l.lt; replace v_o := (Var.drew v_o).below hb v_o.lt; replace bw := bw.drew.trans (hb.mono szd); replace sz := bw.size; clear hb z_o c_r0 c_r1 c_l0 c_o0 c_o1; have c_r0 : w20.cell? ⟨w.heap.size, 0, none⟩ = some (.slice A n c) := v_r.cells 0; have c_r1 : w20.cell? ⟨w.heap.size, 1, none⟩ = some (.int .i64 s.err) := v_r.cells 1; have c_l0 : w20.cell? ⟨w.heap.size + 1, 0, none⟩ = some (.int .i64 mn) := v_l.cells 0; have c_o0 : w20.cell? ⟨w.heap.size + 2, 0, none⟩ = some (.slice none 0 0) := v_o.cells 0; have c_o1 : w20.cell? ⟨w.heap.size + 2, 1, none⟩ = some (.int .i64 0) := v_o.cells 1; have z_o := v_o.froz)
          | (go_at_call 73; ((with_reducible refine (refPutU32_any A1 _ c1 (s.bytes [Oct.b8 0]) _ rfl hA1 (by omega) mn).mono ?_); rintro e w21 ⟨A2, c2, rfl, hA2, hb⟩); replace v_r := v_r.below hb v_r.lt; replace v_l := v_l.below hb v_l.lt; replace v_o := v_o.below hb v_o.lt; replace bw := bw.trans (hb.mono sz); replace sz := bw.size; clear hb z_o c_r0 c_r1 c_l0 c_o0 c_o1; have c_r0 : w21.cell? ⟨w.heap.size, 0, none⟩ = some (.slice A n c) := v_r.cells 0; have c_r1 : w21.cell? ⟨w.heap.size, 1, none⟩ = some (.int .i64 s.err) := v_r.cells 1; have c_l0 : w21.cell? ⟨w.heap.size + 1, 0, none⟩ = some (.int .i64 mn) := v_l.cells 0; have c_o0 : w21.cell? ⟨w.heap.size + 2, 0, none⟩ = some (.slice none 0 0) := v_o.cells 0; have c_o1 : w21.cell? ⟨w.heap.size + 2, 1, none⟩ = some (.int .i64 0) := v_o.cells 1; have z_o := v_o.froz))
      all_goals
        clear z_o c_r0 c_r1 c_l0 c_o0 c_o1
        have q_r := v_r.cells
        have z_r := v_r.froz
        have l_r := v_r.lt
        have q_l := v_l.cells
        have z_l := v_l.froz
        have l_l := v_l.lt
        have q_o := v_o.cells
        have z_o := v_o.froz
        have l_o := v_o.lt
        (try dsimp only)
        repeat (first | go_values | go_skip | go_guarded | go_step | go_upon)
        refine bodyPost_ret (v := .agg #[.slice A2 (Oct.putU32 (s.bytes [Oct.b8 0]) mn).b.length c2, .int .i64 (Oct.putU32 (s.bytes [Oct.b8 0]) mn).err]) (by simp [results, Try.results31, go_sem, q_r, l_r, q_l, l_l, q_o, l_o]) rfl ?_
        exact ⟨A2, c2, rfl, ((hA2.set (fun hp ad hA => hA2.ne_var v_o (noW _ _ _ _) hp hA) 0 _).set (fun hp ad hA => hA2.ne_var v_o (noW _ _ _ _) hp hA) 1 _).more (by go_size), by go_grown⟩
    · rw [if_pos rfl, show s.bytes [1] = s.bytes [Oct.b8 1] from rfl]
      go_enter Try.func31, Try.ntmps31
      go_wp2_with fail
      refine at_world (F := fun w' => Var w' (w.heap.size) #[.slice A n c, .int .i64 s.err] 41 ∧ Var w' (w.heap.size + 1) #[.int .i64 mn, .int .i64 mx, .bool true] 52 ∧ Var w' (w.heap.size + 2) #[.slice none 0 0, .int .i64 0] 41 ∧ Below w.heap.size w w') ⟨((Var.new w _ _).alloc _).alloc _, (Var.new2 w _ _ _).alloc _, Var.new3 w _ _ _ _, by go_grown⟩ ?_
      rintro w1 ⟨v_r, v_l, v_o, bw⟩
      have sz := bw.size
      refine (HK.out _).mono ?_
      rintro e w2 ⟨rfl, hb⟩
      replace v_r := v_r.below hb v_r.lt
      replace v_l := v_l.below hb v_l.lt
      replace v_o := v_o.below hb v_o.lt
      replace bw := bw.trans (hb.mono bw.size)
      replace sz := bw.size
      clear hb
      have q_r := v_r.cells
      have z_r := v_r.froz
      have l_r := v_r.lt
      have q_l := v_l.cells
      have z_l := v_l.froz
      have l_l := v_l.lt
      have q_o := v_o.cells
      have z_o := v_o.froz
      have l_o := v_o.lt
      go_wp2_with fail
      refine at_code (F := fun w' => Var w' (w.heap.size) #[.slice A n c, .int .i64 s.err] 41 ∧ Var w' (w.heap.size + 1) #[.int .i64 mn, .int .i64 mx, .bool true] 52 ∧ Var w' (w.heap.size + 2) #[.slice none 0 0, .int .i64 0] 41 ∧ Below w.heap.size w w') ⟨v_r, v_l, v_o, by go_grown⟩ ?_
      clear q_r z_r l_r v_r q_l z_l l_l v_l q_o z_o l_o v_o bw sz
      rintro W0 ⟨v_r, v_l, v_o, bw⟩
      have sz := bw.size
      have szd : w.heap.size ≤ W0.drew.heap.size := sz
      have c_r0 : W0.cell? ⟨w.heap.size, 0, none⟩ = some (.slice A n c) := v_r.cells 0
      have c_r1 : W0.cell? ⟨w.heap.size, 1, none⟩ = some (.int .i64 s.err) := v_r.cells 1
      have c_l0 : W0.cell? ⟨w.heap.size + 1, 0, none⟩ = some (.int .i64 mn) := v_l.cells 0
      have c_l1 : W0.cell? ⟨w.heap.size + 1, 1, none⟩ = some (.int .i64 mx) := v_l.cells 1
      have c_o0 : W0.cell? ⟨w.heap.size + 2, 0, none⟩ = some (.slice none 0 0) := v_o.cells 0
      have c_o1 : W0.cell? ⟨w.heap.size + 2, 1, none⟩ = some (.int .i64 0) := v_o.cells 1
      have z_o := v_o.froz
      (try simp only [Nat.add_assoc, Nat.reduceAdd])
      go_region_held3 (fun w' => w'.cell? ⟨w.heap.size, 0, none⟩ = some (.slice A n c) ∧ w'.cell? ⟨w.heap.size, 1, none⟩ = some (.int .i64 s.err) ∧ w'.cell? ⟨w.heap.size + 1, 0, none⟩ = some (.int .i64 mn) ∧ w'.cell? ⟨w.heap.size + 1, 1, none⟩ = some (.int .i64 mx))
        (go_keep)
        (first
          | (go_at_call 60; ((with_reducible refine (refPutByte_any A n c s _ hn ((HR.out.below bw.drew).more szd) (by omega) 1 (by decide) (by decide)).mono ?_); rintro e w20 ⟨A1, c1, rfl, hA1, hb⟩); replace v_r := (Var.drew v_r).below hb v_r.lt; replace v_l := (Var.drew v_l).below hb v_l.lt; replace v_o := (Var.drew v_o).below hb v_o.lt; replace bw := bw.drew.trans (hb.mono szd); replace sz := bw.size; clear hb z_o c_r0 c_r1 c_l0 c_l1 c_o0 c_o1; have c_r0 : w20.cell? ⟨w.heap.size, 0, none⟩ = some (.slice A n c) := v_r.cells 0; have c_r1 : w20.cell? ⟨w.heap.size, 1, none⟩ = some (.int .i64 s.err) := v_r.cells 1; have c_l0 : w20.cell? ⟨w.heap.size + 1, 0, none⟩ = some (.int .i64 mn) := v_l.cells 0; have c_l1 : w20.cell? ⟨w.heap.size + 1, 1, none⟩ = some (.int .i64 mx) := v_l.cells 1; have c_o0 : w20.cell? ⟨w.heap.size + 2, 0, none⟩ = some (.slice none 0 0) := v_o.cells 0; have c_o1 : w20.cell? ⟨w.heap.size + 2, 1, none⟩ = some (.int .i64 0) := v_o.cells 1; have z_o := v_o.froz)
          | (go_at_call 73; ((with_reducible refine (refPutU32_any A1 _ c1 (s.bytes [Oct.b8 1]) _ rfl hA1 (by omega) mn).mono ?_); rintro e w21 ⟨A2, c2, rfl, hA2, hb⟩); replace v_r := v_r.below hb v_r.lt; replace v_l := v_l.below hb v_l.lt; replace v_o := v_o.below hb v_o.lt; replace bw := bw.trans (hb.mono sz); replace sz := bw.size; clear hb z_o c_r0 c_r1 c_l0 c_l1 c_o0 c_o1; have c_r0 : w21.cell? ⟨w.heap.size, 0, none⟩ = some (.slice A n c) := v_r.cells 0; have c_r1 : w21.cell? ⟨w.heap.size, 1, none⟩ = some (.int .i64 s.err) := v_r.cells 1; have c_l0 : w21.cell? ⟨w.heap.size + 1, 0, none⟩ = some (.int .i64 mn) := v_l.cells 0; have c_l1 : w21.cell? ⟨w.heap.size + 1, 1, none⟩ = some (.int .i64 mx) := v_l.cells 1; have c_o0 : w21.cell? ⟨w.heap.size + 2, 0, none⟩ = some (.slice none 0 0) := v_o.cells 0; have c_o1 : w21.cell? ⟨w.heap.size + 2, 1, none⟩ = some (.int .i64 0) := v_o.cells 1; have z_o := v_o.froz)
          | (go_at_call 73; ((with_reducible refine (refPutU32_any A2 _ c2 (Oct.putU32 (s.bytes [Oct.b8 1]) mn) _ rfl hA2 (by omega) mx).mono ?_); rintro e w22 ⟨A3, c3, rfl, hA3, hb⟩); replace v_r := v_r.below hb v_r.lt; replace v_l := v_l.below hb v_l.lt; replace v_o := v_o.below hb v_o.lt; replace bw := bw.trans (hb.mono sz); replace sz := bw.size; clear hb z_o c_r0 c_r1 c_l0 c_l1 c_o0 c_o1; have c_r0 : w22.cell? ⟨w.heap.size, 0, none⟩ = some (.slice A n c) := v_r.cells 0; have c_r1 : w22.cell? ⟨w.heap.size, 1, none⟩ = some (.int .i64 s.err) := v_r.cells 1; have c_l0 : w22.cell? ⟨w.heap.size + 1, 0, none⟩ = some (.int .i64 mn) := v_l.cells 0; have c_l1 : w22.cell? ⟨w.heap.size + 1, 1, none⟩ = some (.int .i64 mx) := v_l.cells 1; have c_o0 : w22.cell? ⟨w.heap.size + 2, 0, none⟩ = some (.slice none 0 0) := v_o.cells 0; have c_o1 : w22.cell? ⟨w.heap.size + 2, 1, none⟩ = some (.int .i64 0) := v_o.cells 1; have z_o := v_o.froz))
      all_goals
        clear z_o c_r0 c_r1 c_l0 c_l1 c_o0 c_o1
        have q_r := v_r.cells
        have z_r := v_r.froz
        have l_r := v_r.lt
        have q_l := v_l.cells
        have z_l := v_l.froz
        have l_l := v_l.lt
        have q_o := v_o.cells
        have z_o := v_o.froz
        have l_o := v_o.lt
        (try dsimp only)
        repeat (first | go_values | go_skip | go_guarded | go_step | go_upon)
        refine bodyPost_ret (v := .agg #[.slice A3 (Oct.putU32 (Oct.putU32 (s.bytes [Oct.b8 1]) mn) mx).b.length c3, .int .i64 (Oct.putU32 (Oct.putU32 (s.bytes [Oct.b8 1]) mn) mx).err]) (by simp [results, Try.results31, go_sem, q_r, l_r, q_l, l_l, q_o, l_o]) rfl ?_
        exact ⟨A3, c3, rfl, ((hA3.set (fun hp ad hA => hA3.ne_var v_o (noW _ _ _ _) hp hA) 0 _).set (fun hp ad hA => hA3.ne_var v_o (noW _ _ _ _) hp hA) 1 _).more (by go_size), by go_grown⟩

set_option maxHeartbeats 8000000 in
set_option maxRecDepth 100000 in
theorem refPutTable_any (A : Option Addr) (n c : Nat) (s : Oct.Wt) (w : World) (hn : s.b.length = n) (hr : RdB w w.heap.size A s.b) (hlen : s.b.length ≤ 4000000) (el : Int) (l : Oct.Lim) :
    Calls Try.prog 32 #[.agg #[.slice A n c, .int .i64 s.err], .agg #[.int .i64 el, .int .i64 l.mn, .int .i64 l.mx, .bool l.has]] w (RPut (Oct.putTable s el l) w) := by
  have HR := Lib.hid hr
  have HK := Lib.hid (fun w => refLimits_any l w)
  have HE := Lib.hid (fun w => refRef_any el w)
  unfold Oct.putTable
  obtain ⟨ok, hok⟩ : ∃ y, Oct.limOk l = y := ⟨_, rfl⟩
  rw [hok] at HK ⊢
  clear hok
  have HL := Lib.hid (fun (A : Option Addr) c w hr hl => refPutLim_any A _ c (Oct.putVal s el) w rfl hr hl l)
  generalize Oct.putLim (Oct.putVal s el) l = s2 at HL ⊢
  obtain ⟨mn, mx, has⟩ := l
  dsimp only at HK HL ⊢
  have HF12 := Lib.hid (fun w hr => refPutFail_any A n c s 12 w hn hr)
  have HF20 := Lib.hid (fun w hr => refPutFail_any A n c s 20 w hn hr)
  have hl0 := Oct.putVal_len s el
  clear hr
  rcases hrf : Ty.ref el with _ | _
  · rw [if_neg (by decide)]
    rw [hrf] at HE
    clear hrf
    go_enter Try.func32, Try.ntmps32
    go_wp2_with fail
    refine at_world (F := fun w' => Var w' (w.heap.size) #[.slice A n c, .int .i64 s.err] 41 ∧ Var w' (w.heap.size + 1) #[.int .i64 el, .int .i64 mn, .int .i64 mx, .bool has] 54 ∧ Var w' (w.heap.size + 2) #[.slice none 0 0, .int .i64 0] 41 ∧ Below w.heap.size w w') ⟨((Var.new w _ _).alloc _).alloc _, (Var.new2 w _ _ _).alloc _, Var.new3 w _ _ _ _, by go_grown⟩ ?_
    rintro w1 ⟨v_r, v_l, v_o, bw⟩
    have sz := bw.size
    refine (HE.out _).mono ?_
    rintro e wq ⟨rfl, rfl⟩
    have q_r := v_r.cells
    have z_r := v_r.froz
    have l_r := v_r.lt
    have q_l := v_l.cells
    have z_l := v_l.froz
    have l_l := v_l.lt
    have q_o := v_o.cells
    have z_o := v_o.froz
    have l_o := v_o.lt
    go_wp2_with fail
    refine at_world (F := fun w' => Var w' (w.heap.size) #[.slice A n c, .int .i64 s.err] 41 ∧ Var w' (w.heap.size + 1) #[.int .i64 el, .int .i64 mn, .int .i64 mx, .bool has] 54 ∧ Var w' (w.heap.size + 2) #[.slice none 0 0, .int .i64 0] 41 ∧ Below w.heap.size w w') ⟨v_r, v_l, v_o, by go_grown⟩ ?_
    clear q_r z_r l_r q_l z_l l_l q_o z_o l_o v_r v_l v_o bw sz
    rintro w2 ⟨v_r, v_l, v_o, bw⟩
    have sz := bw.size
    refine (HF12.out _ ((HR.out.below bw).more bw.size)).mono ?_
    rintro e w3 ⟨A2, c2, rfl, hA2, hb⟩
    replace v_r := v_r.below hb v_r.lt
    replace v_l := v_l.below hb v_l.lt
    replace v_o := v_o.below hb v_o.lt
    replace bw := bw.trans (hb.mono bw.size)
    replace sz := bw.size
    clear hb
    have q_r := v_r.cells
    have z_r := v_r.froz
    have l_r := v_r.lt
    have q_l := v_l.cells
    have z_l := v_l.froz
    have l_l := v_l.lt
    have q_o := v_o.cells
    have z_o := v_o.froz
    have l_o := v_o.lt
    (try dsimp only)
    repeat (first | go_values | go_skip | go_guarded | go_step | go_upon)
    refine bodyPost_ret (v := .agg #[.slice A2 (s.fail 12).b.length c2, .int .i64 (s.fail 12).err]) (by simp [results, Try.results32, go_sem, q_r, l_r, q_l, l_l, q_o, l_o]) rfl ?_
    exact ⟨A2, c2, rfl, ((hA2.set (fun hp ad hA => hA2.ne_var v_o (noW _ _ _ _) hp hA) 0 _).set (fun hp ad hA => hA2.ne_var v_o (noW _ _ _ _) hp hA) 1 _).more (by go_size), by go_grown⟩
  rw [if_pos rfl]
  rw [hrf] at HE
  clear hrf
  rcases ok with _ | _
  · rw [if_neg (by decide)]
    go_enter Try.func32, Try.ntmps32
    go_wp2_with fail
    refine at_world (F := fun w' => Var w' (w.heap.size) #[.slice A n c, .int .i64 s.err] 41 ∧ Var w' (w.heap.size + 1) #[.int .i64 el, .int .i64 mn, .int .i64 mx, .bool has] 54 ∧ Var w' (w.heap.size + 2) #[.slice none 0 0, .int .i64 0] 41 ∧ Below w.heap.size w w') ⟨((Var.new w _ _).alloc _).alloc _, (Var.new2 w _ _ _).alloc _, Var.new3 w _ _ _ _, by go_grown⟩ ?_
    rintro w1 ⟨v_r, v_l, v_o, bw⟩
    have sz := bw.size
    refine (HE.out _).mono ?_
    rintro e wq ⟨rfl, rfl⟩
    have q_r := v_r.cells
    have z_r := v_r.froz
    have l_r := v_r.lt
    have q_l := v_l.cells
    have z_l := v_l.froz
    have l_l := v_l.lt
    have q_o := v_o.cells
    have z_o := v_o.froz
    have l_o := v_o.lt
    go_wp2_with fail
    refine at_world (F := fun w' => Var w' (w.heap.size) #[.slice A n c, .int .i64 s.err] 41 ∧ Var w' (w.heap.size + 1) #[.int .i64 el, .int .i64 mn, .int .i64 mx, .bool has] 54 ∧ Var w' (w.heap.size + 2) #[.slice none 0 0, .int .i64 0] 41 ∧ Below w.heap.size w w') ⟨v_r, v_l, v_o, by go_grown⟩ ?_
    clear q_r z_r l_r q_l z_l l_l q_o z_o l_o v_r v_l v_o bw sz
    rintro w2 ⟨v_r, v_l, v_o, bw⟩
    have sz := bw.size
    refine (HK.out _).mono ?_
    rintro e w3 ⟨rfl, hb⟩
    replace v_r := v_r.below hb v_r.lt
    replace v_l := v_l.below hb v_l.lt
    replace v_o := v_o.below hb v_o.lt
    replace bw := bw.trans (hb.mono bw.size)
    replace sz := bw.size
    clear hb
    have q_r := v_r.cells
    have z_r := v_r.froz
    have l_r := v_r.lt
    have q_l := v_l.cells
    have z_l := v_l.froz
    have l_l := v_l.lt
    have q_o := v_o.cells
    have z_o := v_o.froz
    have l_o := v_o.lt
    go_wp2_with fail
    refine at_world (F := fun w' => Var w' (w.heap.size) #[.slice A n c, .int .i64 s.err] 41 ∧ Var w' (w.heap.size + 1) #[.int .i64 el, .int .i64 mn, .int .i64 mx, .bool has] 54 ∧ Var w' (w.heap.size + 2) #[.slice none 0 0, .int .i64 0] 41 ∧ Below w.heap.size w w') ⟨v_r, v_l, v_o, by go_grown⟩ ?_
    clear q_r z_r l_r q_l z_l l_l q_o z_o l_o v_r v_l v_o bw sz
    rintro w4 ⟨v_r, v_l, v_o, bw⟩
    have sz := bw.size
    refine (HF20.out _ ((HR.out.below bw).more bw.size)).mono ?_
    rintro e w5 ⟨A2, c2, rfl, hA2, hb⟩
    replace v_r := v_r.below hb v_r.lt
    replace v_l := v_l.below hb v_l.lt
    replace v_o := v_o.below hb v_o.lt
    replace bw := bw.trans (hb.mono bw.size)
    replace sz := bw.size
    clear hb
    have q_r := v_r.cells
    have z_r := v_r.froz
    have l_r := v_r.lt
    have q_l := v_l.cells
    have z_l := v_l.froz
    have l_l := v_l.lt
    have q_o := v_o.cells
    have z_o := v_o.froz
    have l_o := v_o.lt
    (try dsimp only)
    repeat (first | go_values | go_skip | go_guarded | go_step | go_upon)
    refine bodyPost_ret (v := .agg #[.slice A2 (s.fail 20).b.length c2, .int .i64 (s.fail 20).err]) (by simp [results, Try.results32, go_sem, q_r, l_r, q_l, l_l, q_o, l_o]) rfl ?_
    exact ⟨A2, c2, rfl, ((hA2.set (fun hp ad hA => hA2.ne_var v_o (noW _ _ _ _) hp hA) 0 _).set (fun hp ad hA => hA2.ne_var v_o (noW _ _ _ _) hp hA) 1 _).more (by go_size), by go_grown⟩
  · rw [if_pos rfl]
    go_enter Try.func32, Try.ntmps32
    go_wp2_with fail
    refine at_world (F := fun w' => Var w' (w.heap.size) #[.slice A n c, .int .i64 s.err] 41 ∧ Var w' (w.heap.size + 1) #[.int .i64 el, .int .i64 mn, .int .i64 mx, .bool has] 54 ∧ Var w' (w.heap.size + 2) #[.slice none 0 0, .int .i64 0] 41 ∧ Below w.heap.size w w') ⟨((Var.new w _ _).alloc _).alloc _, (Var.new2 w _ _ _).alloc _, Var.new3 w _ _ _ _, by go_grown⟩ ?_
    rintro w1 ⟨v_r, v_l, v_o, bw⟩
    have sz := bw.size
    refine (HE.out _).mono ?_
    rintro e wq ⟨rfl, rfl⟩
    have q_r := v_r.cells
    have z_r := v_r.froz
    have l_r := v_r.lt
    have q_l := v_l.cells
    have z_l := v_l.froz
    have l_l := v_l.lt
    have q_o := v_o.cells
    have z_o := v_o.froz
    have l_o := v_o.lt
    go_wp2_with fail
    refine at_world (F := fun w' => Var w' (w.heap.size) #[.slice A n c, .int .i64 s.err] 41 ∧ Var w' (w.heap.size + 1) #[.int .i64 el, .int .i64 mn, .int .i64 mx, .bool has] 54 ∧ Var w' (w.heap.size + 2) #[.slice none 0 0, .int .i64 0] 41 ∧ Below w.heap.size w w') ⟨v_r, v_l, v_o, by go_grown⟩ ?_
    clear q_r z_r l_r q_l z_l l_l q_o z_o l_o v_r v_l v_o bw sz
    rintro w2 ⟨v_r, v_l, v_o, bw⟩
    have sz := bw.size
    refine (HK.out _).mono ?_
    rintro e w3 ⟨rfl, hb⟩
    replace v_r := v_r.below hb v_r.lt
    replace v_l := v_l.below hb v_l.lt
    replace v_o := v_o.below hb v_o.lt
    replace bw := bw.trans (hb.mono bw.size)
    replace sz := bw.size
    clear hb
    have q_r := v_r.cells
    have z_r := v_r.froz
    have l_r := v_r.lt
    have q_l := v_l.cells
    have z_l := v_l.froz
    have l_l := v_l.lt
    have q_o := v_o.cells
    have z_o := v_o.froz
    have l_o := v_o.lt
    go_wp2_with fail
    refine at_code (F := fun w' => Var w' (w.heap.size) #[.slice A n c, .int .i64 s.err] 41 ∧ Var w' (w.heap.size + 1) #[.int .i64 el, .int .i64 mn, .int .i64 mx, .bool has] 54 ∧ Var w' (w.heap.size + 2) #[.slice none 0 0, .int .i64 0] 41 ∧ Below w.heap.size w w') ⟨v_r, v_l, v_o, by go_grown⟩ ?_
    clear q_r z_r l_r v_r q_l z_l l_l v_l q_o z_o l_o v_o bw sz
    rintro W0 ⟨v_r, v_l, v_o, bw⟩
    have sz := bw.size
    have szd : w.heap.size ≤ W0.drew.heap.size := sz
    have c_r0 : W0.cell? ⟨w.heap.size, 0, none⟩ = some (.slice A n c) := v_r.cells 0
    have c_r1 : W0.cell? ⟨w.heap.size, 1, none⟩ = some (.int .i64 s.err) := v_r.cells 1
    have c_l0 : W0.cell? ⟨w.heap.size + 1, 0, none⟩ = some (.int .i64 el) := v_l.cells 0
    have c_l1 : W0.cell? ⟨w.heap.size + 1, 1, none⟩ = some (.int .i64 mn) := v_l.cells 1
    have c_l2 : W0.cell? ⟨w.heap.size + 1, 2, none⟩ = some (.int .i64 mx) := v_l.cells 2
    have c_l3 : W0.cell? ⟨w.heap.size + 1, 3, none⟩ = some (.bool has) := v_l.cells 3
    have c_o0 : W0.cell? ⟨w.heap.size + 2, 0, none⟩ = some (.slice none 0 0) := v_o.cells 0
    have c_o1 : W0.cell? ⟨w.heap.size + 2, 1, none⟩ = some (.int .i64 0) := v_o.cells 1
    have z_o := v_o.froz
    (try simp only [Nat.add_assoc, Nat.reduceAdd])
    go_region_held3 (fun w' => w'.cell? ⟨w.heap.size, 0, none⟩ = some (.slice A n c) ∧ w'.cell? ⟨w.heap.size, 1, none⟩ = some (.int .i64 s.err) ∧ w'.cell? ⟨w.heap.size + 1, 0, none⟩ = some (.int .i64 el) ∧ w'.cell? ⟨w.heap.size + 1, 1, none⟩ = some (.int .i64 mn) ∧ w'.cell? ⟨w.heap.size + 1, 2, none⟩ = some (.int .i64 mx) ∧ w'.cell? ⟨w.heap.size + 1, 3, none⟩ = some (.bool has))
      (go_keep)
      (first
        | (go_at_call 24; ((with_reducible refine (refPutVal_any A n c s _ hn ((HR.out.below bw.drew).more szd) (by omega) el).mono ?_); rintro e w20 ⟨A1, c1, rfl, hA1, hb⟩); replace v_r := (Var.drew v_r).below hb v_r.lt; replace v_l := (Var.drew v_l).below hb v_l.lt; replace v_o := (Var.drew v_o).below hb v_o.lt; replace bw := bw.drew.trans (hb.mono szd); replace sz := bw.size; clear hb z_o c_r0 c_r1 c_l0 c_l1 c_l2 c_l3 c_o0 c_o1; have c_r0 : w20.cell? ⟨w.heap.size, 0, none⟩ = some (.slice A n c) := v_r.cells 0; have c_r1 : w20.cell? ⟨w.heap.size, 1, none⟩ = some (.int .i64 s.err) := v_r.cells 1; have c_l0 : w20.cell? ⟨w.heap.size + 1, 0, none⟩ = some (.int .i64 el) := v_l.cells 0; have c_l1 : w20.cell? ⟨w.heap.size + 1, 1, none⟩ = some (.int .i64 mn) := v_l.cells 1; have c_l2 : w20.cell? ⟨w.heap.size + 1, 2, none⟩ = some (.int .i64 mx) := v_l.cells 2; have c_l3 : w20.cell? ⟨w.heap.size + 1, 3, none⟩ = some (.bool has) := v_l.cells 3; have c_o0 : w20.cell? ⟨w.heap.size + 2, 0, none⟩ = some (.slice none 0 0) := v_o.cells 0; have c_o1 : w20.cell? ⟨w.heap.size + 2, 1, none⟩ = some (.int .i64 0) := v_o.cells 1; have z_o := v_o.froz)
        | (go_at_call 31; ((with_reducible refine (HL.out A1 c1 _ hA1 (by omega)).mono ?_); rintro e w21 ⟨A2, c2, rfl, hA2, hb⟩); replace v_r := v_r.below hb v_r.lt; replace v_l := v_l.below hb v_l.lt; replace v_o := v_o.below hb v_o.lt; replace bw := bw.trans (hb.mono sz); replace sz := bw.size; clear hb z_o c_r0 c_r1 c_l0 c_l1 c_l2 c_l3 c_o0 c_o1; have c_r0 : w21.cell? ⟨w.heap.size, 0, none⟩ = some (.slice A n c) := v_r.cells 0; have c_r1 : w21.cell? ⟨w.heap.size, 1, none⟩ = some (.int .i64 s.err) := v_r.cells 1; have c_l0 : w21.cell? ⟨w.heap.size + 1, 0, none⟩ = some (.int .i64 el) := v_l.cells 0; have c_l1 : w21.cell? ⟨w.heap.size + 1, 1, none⟩ = some (.int .i64 mn) := v_l.cells 1; have c_l2 : w21.cell? ⟨w.heap.size + 1, 2, none⟩ = some (.int .i64 mx) := v_l.cells 2; have c_l3 : w21.cell? ⟨w.heap.size + 1, 3, none⟩ = some (.bool has) := v_l.cells 3; have c_o0 : w21.cell? ⟨w.heap.size + 2, 0, none⟩ = some (.slice none 0 0) := v_o.cells 0; have c_o1 : w21.cell? ⟨w.heap.size + 2, 1, none⟩ = some (.int .i64 0) := v_o.cells 1; have z_o := v_o.froz))
    all_goals
      clear z_o c_r0 c_r1 c_l0 c_l1 c_l2 c_l3 c_o0 c_o1
      have q_r := v_r.cells
      have z_r := v_r.froz
      have l_r := v_r.lt
      have q_l := v_l.cells
      have z_l := v_l.froz
      have l_l := v_l.lt
      have q_o := v_o.cells
      have z_o := v_o.froz
      have l_o := v_o.lt
      (try dsimp only)
      repeat (first | go_values | go_skip | go_guarded | go_step | go_upon)
      refine bodyPost_ret (v := .agg #[.slice A2 s2.b.length c2, .int .i64 s2.err]) (by simp [results, Try.results32, go_sem, q_r, l_r, q_l, l_l, q_o, l_o]) rfl ?_
      exact ⟨A2, c2, rfl, ((hA2.set (fun hp ad hA => hA2.ne_var v_o (noW _ _ _ _) hp hA) 0 _).set (fun hp ad hA => hA2.ne_var v_o (noW _ _ _ _) hp hA) 1 _).more (by go_size), by go_grown⟩
end Go.Proofs.Ytagcildoebicnaa
