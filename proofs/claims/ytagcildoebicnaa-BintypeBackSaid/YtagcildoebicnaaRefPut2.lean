/-
  The reference of layer 2: the writes of bytes and numbers, and what is done.
-/
import Derived.Test.YtagcildoebicnaaRefPut
import Derived.Test.YtagcildoebicnaaBtPut3
import Derived.Deep.RegionWith
set_option linter.unusedVariables false
set_option linter.unusedSimpArgs false
namespace Go.Proofs.Ytagcildoebicnaa
open Go.RowKit

set_option maxHeartbeats 8000000 in
set_option maxRecDepth 100000 in
theorem refPutByte_any (A : Option Addr) (n c : Nat) (s : Oct.Wt) (w : World) (hn : s.b.length = n) (hr : RdB w w.heap.size A s.b) (hlen : s.b.length ≤ 9000000) (x : Int) (h0 : 0 ≤ x) (h1 : x < 256) :
    Calls Try.prog 60 #[.agg #[.slice A n c, .int .i64 s.err], .int .u8 x] w (RPut (s.bytes [Oct.b8 x]) w) := by
  have HR := Lib.hid hr
  have HC := Lib.hid (fun w hr d hl => refPutBytes_any A (some d) n c 1 1 s [Oct.b8 x] w hn hr rfl hl (by simp; omega))
  have HB := Lib.hid (byte_of x h0 h1)
  clear hr
  go_enter Try.func60, Try.ntmps60
  go_wp2_with fail
  refine at_world (F := fun w' => Var w' (w.heap.size) #[.slice A n c, .int .i64 s.err] 41 ∧ Var w' (w.heap.size + 1) #[.slice none 0 0, .int .i64 0] 41 ∧ Var w' (w.heap.size + 2) #[.int .u8 x] 5 ∧ Below w.heap.size w w') ⟨((Var.new w _ _).alloc _).alloc _, (Var.new2 w _ _ _).alloc _, Var.new3 w _ _ _ _, by go_grown⟩ ?_
  rintro w1 ⟨v_r, v_o, v_x, bw⟩
  have sz := bw.size
  have hx : RdB w1 w1.heap.size (some ⟨w.heap.size + 2, 0, none⟩) [Oct.b8 x] := by
    have h := v_x.cells 0
    have h2 : w1.cell? ⟨w.heap.size + 2, 0, none⟩ = some (bv (Oct.b8 x)) := by rw [h]; show some _ = _; rw [HB.out]; rfl
    exact take_reads _ _ _ h2 v_x.lt
  refine (HC.out _ ((HR.out.below bw).more bw.size) ⟨w.heap.size + 2, 0, none⟩ hx).mono ?_
  rintro e w2 ⟨A2, c2, rfl, hA2, hb⟩
  replace v_r := v_r.below hb v_r.lt
  replace v_o := v_o.below hb v_o.lt
  replace v_x := v_x.below hb v_x.lt
  replace bw := bw.trans (hb.mono bw.size)
  replace sz := bw.size
  clear hb
  have q_r := v_r.cells
  have z_r := v_r.froz
  have l_r := v_r.lt
  have q_o := v_o.cells
  have z_o := v_o.froz
  have l_o := v_o.lt
  have q_x := v_x.cells
  have z_x := v_x.froz
  have l_x := v_x.lt
  (try dsimp only)
  repeat (first | go_values | go_skip | go_guarded | go_step | go_upon)
  refine bodyPost_ret (v := .agg #[.slice A2 (s.bytes [Oct.b8 x]).b.length c2, .int .i64 (s.bytes [Oct.b8 x]).err]) (by simp [results, Try.results60, go_sem, q_r, l_r, q_o, l_o, q_x, l_x]) rfl ?_
  exact ⟨A2, c2, rfl, ((hA2.set (fun hp ad hA => hA2.ne_var v_o (noW _ _ _ _) hp hA) 0 _).set (fun hp ad hA => hA2.ne_var v_o (noW _ _ _ _) hp hA) 1 _).more (by go_size), by go_grown⟩

set_option maxHeartbeats 8000000 in
set_option maxRecDepth 100000 in
theorem refPutU32_any (A : Option Addr) (n c : Nat) (s : Oct.Wt) (w : World) (hn : s.b.length = n) (hr : RdB w w.heap.size A s.b) (hlen : s.b.length ≤ 9000000) (m : Int) :
    Calls Try.prog 73 #[.agg #[.slice A n c, .int .i64 s.err], .int .i64 m] w (RPut (Oct.putU32 s m) w) := by
  have HR := Lib.hid hr
  have HF := Lib.hid (fun w hr => refPutFail_any A n c s 1 w hn hr)
  clear hr
  by_cases hbad : m < 0 ∨ 4294967295 < m
  · rw [show Oct.putU32 s m = s.fail 1 from if_pos hbad]
    by_cases hneg : m < 0
    · have g1 : decide (m < 0) = true := by simpa using hneg
      clear hbad
      go_enter Try.func73, Try.ntmps73
      go_wp2_with fail
      refine at_world (F := fun w' => Var w' (w.heap.size) #[.slice A n c, .int .i64 s.err] 41 ∧ Var w' (w.heap.size + 1) #[.slice none 0 0, .int .i64 0] 41 ∧ Below w.heap.size w w') ⟨(Var.new w _ _).alloc _, Var.new2 w _ _ _, by go_grown⟩ ?_
      rintro w1 ⟨v_r, v_o, bw⟩
      have sz := bw.size
      refine (HF.out _ ((HR.out.below bw).more bw.size)).mono ?_
      rintro e w2 ⟨A2, c2, rfl, hA2, hb⟩
      replace v_r := v_r.below hb v_r.lt
      replace v_o := v_o.below hb v_o.lt
      replace bw := bw.trans (hb.mono bw.size)
      replace sz := bw.size
      clear hb
      have q_r := v_r.cells
      have z_r := v_r.froz
      have l_r := v_r.lt
      have q_o := v_o.cells
      have z_o := v_o.froz
      have l_o := v_o.lt
      (try dsimp only)
      repeat (first | go_values | go_skip | go_guarded | go_step | go_upon)
      refine bodyPost_ret (v := .agg #[.slice A2 (s.fail 1).b.length c2, .int .i64 (s.fail 1).err]) (by simp [results, Try.results73, go_sem, q_r, l_r, q_o, l_o]) rfl ?_
      exact ⟨A2, c2, rfl, ((hA2.set (fun hp ad hA => hA2.ne_var v_o (noW _ _ _ _) hp hA) 0 _).set (fun hp ad hA => hA2.ne_var v_o (noW _ _ _ _) hp hA) 1 _).more (by go_size), by go_grown⟩
    · have g1 : decide (m < 0) = false := by simp; omega
      have g2 : decide (4294967296 ≤ m) = true := by simp; omega
      clear hbad
      go_enter Try.func73, Try.ntmps73
      go_wp2_with fail
      refine at_world (F := fun w' => Var w' (w.heap.size) #[.slice A n c, .int .i64 s.err] 41 ∧ Var w' (w.heap.size + 1) #[.slice none 0 0, .int .i64 0] 41 ∧ Below w.heap.size w w') ⟨(Var.new w _ _).alloc _, Var.new2 w _ _ _, by go_grown⟩ ?_
      rintro w1 ⟨v_r, v_o, bw⟩
      have sz := bw.size
      refine (HF.out _ ((HR.out.below bw).more bw.size)).mono ?_
      rintro e w2 ⟨A2, c2, rfl, hA2, hb⟩
      replace v_r := v_r.below hb v_r.lt
      replace v_o := v_o.below hb v_o.lt
      replace bw := bw.trans (hb.mono bw.size)
      replace sz := bw.size
      clear hb
      have q_r := v_r.cells
      have z_r := v_r.froz
      have l_r := v_r.lt
      have q_o := v_o.cells
      have z_o := v_o.froz
      have l_o := v_o.lt
      (try dsimp only)
      repeat (first | go_values | go_skip | go_guarded | go_step | go_upon)
      refine bodyPost_ret (v := .agg #[.slice A2 (s.fail 1).b.length c2, .int .i64 (s.fail 1).err]) (by simp [results, Try.results73, go_sem, q_r, l_r, q_o, l_o]) rfl ?_
      exact ⟨A2, c2, rfl, ((hA2.set (fun hp ad hA => hA2.ne_var v_o (noW _ _ _ _) hp hA) 0 _).set (fun hp ad hA => hA2.ne_var v_o (noW _ _ _ _) hp hA) 1 _).more (by go_size), by go_grown⟩
  · rw [show Oct.putU32 s m = s.bytes (Leb.putU m.toNat) from if_neg hbad]
    obtain ⟨k, rfl⟩ := Int.eq_ofNat_of_zero_le (show 0 ≤ m by omega)
    have hk : k ≤ 4294967295 := by omega
    have g1 : decide ((k : Int) < 0) = false := by simp
    have g2 : decide (4294967296 ≤ (k : Int)) = false := by simp; omega
    have hwr : IntKind.u64.wrap (k : Int) = (k : Int) := Leb.wrapU _ (by omega) (by omega)
    rw [Int.toNat_natCast]
    have hll := Leb.putU_len10 k (by omega)
    have HLEN := Lib.hid (show s.b.length + (Leb.putU k).length ≤ 10000000 by omega)
    have HU : Hid (∀ w, Calls Try.prog 97 #[.slice none 0 0, .int .u64 k] w (RetB (Leb.putU k) w)) := fun w => by
      have := refPutU_any none 0 [] k w (RdB.nil_) (by simp) (by unfold InU64; omega)
      rwa [List.nil_append] at this
    clear hbad hll
    go_enter Try.func73, Try.ntmps73
    go_wp2_with fail
    go_region_with (first
      | (go_at_call 97; (refine at_world (F := fun w' => Var w' w.heap.size #[.slice A n c, .int .i64 s.err] 41 ∧ Var w' (w.heap.size + 1) #[.slice none 0 0, .int .i64 0] 41 ∧ Below w.heap.size w w') ⟨by first | exact (Var.new w _ _).alloc _ | exact Var.drew ((Var.new w _ _).alloc _), by first | exact Var.new2 w _ _ _ | exact Var.drew (Var.new2 w _ _ _), by go_grown⟩ ?_); rintro w1 ⟨v_r, v_o, bw⟩; (refine (HU.out w1).mono ?_); rintro e w2 ⟨A1, c1, rfl, hown, hcl, hb⟩; replace v_r := v_r.below hb v_r.lt; replace v_o := v_o.below hb v_o.lt; replace bw := bw.trans (hb.mono bw.size); have sz := bw.size; have q_r := v_r.cells; have q_o := v_o.cells; have z_o := v_o.froz; have l_r := v_r.lt; have l_o := v_o.lt; have hrd := RdB.of_own hown; clear hb hown hcl)
      | (go_at_call 90; (refine (refPutBytes_any A A1 n c _ c1 s (Leb.putU k) _ hn ((HR.out.below bw).more sz) rfl hrd HLEN.out).mono ?_); rintro e w3 ⟨A2, c2, rfl, hA2, hb⟩; replace v_r := v_r.below hb v_r.lt; replace v_o := v_o.below hb v_o.lt; replace bw := bw.trans (hb.mono sz); have sz3 := bw.size; clear q_r q_o z_o l_r l_o hrd; have q_r := v_r.cells; have q_o := v_o.cells; have z_o := v_o.froz; have l_r := v_r.lt; have l_o := v_o.lt; clear hb))
    all_goals
      (try dsimp only)
      repeat (first | go_values | go_skip | go_guarded | go_step | go_upon)
      refine bodyPost_ret (v := .agg #[.slice A2 (s.bytes (Leb.putU k)).b.length c2, .int .i64 (s.bytes (Leb.putU k)).err]) (by simp [results, Try.results73, go_sem, q_o, l_o, q_r, l_r]) rfl ?_
      exact ⟨A2, c2, rfl, ((hA2.set (fun hp ad hA => hA2.ne_var v_o (noW _ _ _ _) hp hA) 0 _).set (fun hp ad hA => hA2.ne_var v_o (noW _ _ _ _) hp hA) 1 _).more (by go_size), by go_grown⟩

set_option maxHeartbeats 8000000 in
set_option maxRecDepth 100000 in
theorem refPutS33_any (A : Option Addr) (n c : Nat) (s : Oct.Wt) (w : World) (hn : s.b.length = n) (hr : RdB w w.heap.size A s.b) (hlen : s.b.length ≤ 9000000) (m : Int) :
    Calls Try.prog 61 #[.agg #[.slice A n c, .int .i64 s.err], .int .i64 m] w (RPut (Oct.putS33 s m) w) := by
  have HR := Lib.hid hr
  have HF := Lib.hid (fun w hr => refPutFail_any A n c s 1 w hn hr)
  clear hr
  by_cases hbad : m < -4294967296 ∨ 4294967295 < m
  · rw [show Oct.putS33 s m = s.fail 1 from if_pos hbad]
    by_cases hneg : m < -4294967296
    · have g1 : decide (m < -4294967296) = true := by simpa using hneg
      clear hbad
      go_enter Try.func61, Try.ntmps61
      go_wp2_with fail
      refine at_world (F := fun w' => Var w' (w.heap.size) #[.slice A n c, .int .i64 s.err] 41 ∧ Var w' (w.heap.size + 1) #[.slice none 0 0, .int .i64 0] 41 ∧ Below w.heap.size w w') ⟨(Var.new w _ _).alloc _, Var.new2 w _ _ _, by go_grown⟩ ?_
      rintro w1 ⟨v_r, v_o, bw⟩
      have sz := bw.size
      refine (HF.out _ ((HR.out.below bw).more bw.size)).mono ?_
      rintro e w2 ⟨A2, c2, rfl, hA2, hb⟩
      replace v_r := v_r.below hb v_r.lt
      replace v_o := v_o.below hb v_o.lt
      replace bw := bw.trans (hb.mono bw.size)
      replace sz := bw.size
      clear hb
      have q_r := v_r.cells
      have z_r := v_r.froz
      have l_r := v_r.lt
      have q_o := v_o.cells
      have z_o := v_o.froz
      have l_o := v_o.lt
      (try dsimp only)
      repeat (first | go_values | go_skip | go_guarded | go_step | go_upon)
      refine bodyPost_ret (v := .agg #[.slice A2 (s.fail 1).b.length c2, .int .i64 (s.fail 1).err]) (by simp [results, Try.results61, go_sem, q_r, l_r, q_o, l_o]) rfl ?_
      exact ⟨A2, c2, rfl, ((hA2.set (fun hp ad hA => hA2.ne_var v_o (noW _ _ _ _) hp hA) 0 _).set (fun hp ad hA => hA2.ne_var v_o (noW _ _ _ _) hp hA) 1 _).more (by go_size), by go_grown⟩
    · have g1 : decide (m < -4294967296) = false := by simp; omega
      have g2 : decide (4294967296 ≤ m) = true := by simp; omega
      clear hbad
      go_enter Try.func61, Try.ntmps61
      go_wp2_with fail
      refine at_world (F := fun w' => Var w' (w.heap.size) #[.slice A n c, .int .i64 s.err] 41 ∧ Var w' (w.heap.size + 1) #[.slice none 0 0, .int .i64 0] 41 ∧ Below w.heap.size w w') ⟨(Var.new w _ _).alloc _, Var.new2 w _ _ _, by go_grown⟩ ?_
      rintro w1 ⟨v_r, v_o, bw⟩
      have sz := bw.size
      refine (HF.out _ ((HR.out.below bw).more bw.size)).mono ?_
      rintro e w2 ⟨A2, c2, rfl, hA2, hb⟩
      replace v_r := v_r.below hb v_r.lt
      replace v_o := v_o.below hb v_o.lt
      replace bw := bw.trans (hb.mono bw.size)
      replace sz := bw.size
      clear hb
      have q_r := v_r.cells
      have z_r := v_r.froz
      have l_r := v_r.lt
      have q_o := v_o.cells
      have z_o := v_o.froz
      have l_o := v_o.lt
      (try dsimp only)
      repeat (first | go_values | go_skip | go_guarded | go_step | go_upon)
      refine bodyPost_ret (v := .agg #[.slice A2 (s.fail 1).b.length c2, .int .i64 (s.fail 1).err]) (by simp [results, Try.results61, go_sem, q_r, l_r, q_o, l_o]) rfl ?_
      exact ⟨A2, c2, rfl, ((hA2.set (fun hp ad hA => hA2.ne_var v_o (noW _ _ _ _) hp hA) 0 _).set (fun hp ad hA => hA2.ne_var v_o (noW _ _ _ _) hp hA) 1 _).more (by go_size), by go_grown⟩
  · rw [show Oct.putS33 s m = s.bytes (Leb.putS m) from if_neg hbad]
    have g1 : decide (m < -4294967296) = false := by simp; omega
    have g2 : decide (4294967296 ≤ m) = false := by simp; omega
    have hll := Leb.putS_len10 m (by omega) (by omega)
    have HLEN := Lib.hid (show s.b.length + (Leb.putS m).length ≤ 10000000 by omega)
    have HU : Hid (∀ w, Calls Try.prog 91 #[.slice none 0 0, .int .i64 m] w (RetB (Leb.putS m) w)) := fun w => by
      have := refPutS_any none 0 [] m w (RdB.nil_) (by simp) (by unfold InI64; omega)
      rwa [List.nil_append] at this
    clear hbad hll
    go_enter Try.func61, Try.ntmps61
    go_wp2_with fail
    go_region_with (first
      | (go_at_call 91; (refine at_world (F := fun w' => Var w' w.heap.size #[.slice A n c, .int .i64 s.err] 41 ∧ Var w' (w.heap.size + 1) #[.slice none 0 0, .int .i64 0] 41 ∧ Below w.heap.size w w') ⟨by first | exact (Var.new w _ _).alloc _ | exact Var.drew ((Var.new w _ _).alloc _), by first | exact Var.new2 w _ _ _ | exact Var.drew (Var.new2 w _ _ _), by go_grown⟩ ?_); rintro w1 ⟨v_r, v_o, bw⟩; (refine (HU.out w1).mono ?_); rintro e w2 ⟨A1, c1, rfl, hown, hcl, hb⟩; replace v_r := v_r.below hb v_r.lt; replace v_o := v_o.below hb v_o.lt; replace bw := bw.trans (hb.mono bw.size); have sz := bw.size; have q_r := v_r.cells; have q_o := v_o.cells; have z_o := v_o.froz; have l_r := v_r.lt; have l_o := v_o.lt; have hrd := RdB.of_own hown; clear hb hown hcl)
      | (go_at_call 90; (refine (refPutBytes_any A A1 n c _ c1 s (Leb.putS m) _ hn ((HR.out.below bw).more sz) rfl hrd HLEN.out).mono ?_); rintro e w3 ⟨A2, c2, rfl, hA2, hb⟩; replace v_r := v_r.below hb v_r.lt; replace v_o := v_o.below hb v_o.lt; replace bw := bw.trans (hb.mono sz); have sz3 := bw.size; clear q_r q_o z_o l_r l_o hrd; have q_r := v_r.cells; have q_o := v_o.cells; have z_o := v_o.froz; have l_r := v_r.lt; have l_o := v_o.lt; clear hb))
    all_goals
      (try dsimp only)
      repeat (first | go_values | go_skip | go_guarded | go_step | go_upon)
      refine bodyPost_ret (v := .agg #[.slice A2 (s.bytes (Leb.putS m)).b.length c2, .int .i64 (s.bytes (Leb.putS m)).err]) (by simp [results, Try.results61, go_sem, q_o, l_o, q_r, l_r]) rfl ?_
      exact ⟨A2, c2, rfl, ((hA2.set (fun hp ad hA => hA2.ne_var v_o (noW _ _ _ _) hp hA) 0 _).set (fun hp ad hA => hA2.ne_var v_o (noW _ _ _ _) hp hA) 1 _).more (by go_size), by go_grown⟩

theorem refDone_any (A : Option Addr) (n c : Nat) (s : Oct.Wt) (w : World) (hn : s.b.length = n) (hr : RdB w w.heap.size A s.b) :
    Calls Try.prog 57 #[.agg #[.slice A n c, .int .i64 s.err]] w (DoneAt w (doneB s) s.err) := by
  subst hn
  rcases h2 : (s.err == 0) with _ | _
  · have h3 : ¬ s.err = 0 := by simpa using h2
    rw [show doneB s = [] from if_neg h3]
    have g1 : (s.err != 0) = true := by simpa using h3
    clear h3 h2
    go_enter Try.func57, Try.ntmps57
    go_wp2
    go_quiet (fail)
    go_wp2
    go_ret2
    exact ⟨none, 0, rfl, RdB.nil_, below_drewN_ (by go_grown) _⟩
  · have h3 : s.err = 0 := by simpa using h2
    rw [show doneB s = s.b from if_pos h3]
    have g1 : (s.err != 0) = false := by simpa using h3
    have HE := Lib.hid h3
    clear h3 h2
    go_enter Try.func57, Try.ntmps57
    go_wp2
    go_ret2
    exact ⟨A, c, by rw [HE.out]; rfl, (hr.below (w' := _) (by go_grown)).more (by go_size), by go_grown⟩
end Go.Proofs.Ytagcildoebicnaa
