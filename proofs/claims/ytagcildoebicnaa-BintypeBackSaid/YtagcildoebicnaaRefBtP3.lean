/-
  The reference of layer 10: lists of value types and function types are written.
-/
import Derived.Test.YtagcildoebicnaaRefBtP2
import Derived.Test.YtagcildoebicnaaRefBt3
set_option linter.unusedVariables false
set_option linter.unusedSimpArgs false
namespace Go.Proofs.Ytagcildoebicnaa
open Go.RowKit

/-- What the reference's loop over the elements keeps. -/
def PVRel (w : World) (vs : List Int) (goal : Oct.Wt) (N : Nat) (k : Nat) (wr : World) : Prop :=
  ∃ A c s, Var wr w.heap.size #[.slice A s.b.length c, .int .i64 s.err] 41 ∧ Var wr (w.heap.size + 1) #[.slice none 0 0, .int .i64 0] 41 ∧
    RdB wr wr.heap.size A s.b ∧ Oct.putAll s (vs.drop k) = goal ∧ Below w.heap.size w wr ∧ s.b.length + (vs.length - k) ≤ N
set_option maxHeartbeats 8000000 in
set_option maxRecDepth 100000 in
theorem refPutVals_any (A : Option Addr) (n c : Nat) (s : Oct.Wt) (w : World) (hn : s.b.length = n) (hr : RdB w w.heap.size A s.b) (hlen : s.b.length ≤ 2000000) (B : Option Addr) (d m : Nat) (vs : List Int) (hm : vs.length = m) (hv : RdI w w.heap.size B vs) (hml : m ≤ 1000000) :
    Calls Try.prog 78 #[.agg #[.slice A n c, .int .i64 s.err], .slice B m d] w (RPut (Oct.putVals s vs) w) := by
  subst hm
  have HR := Lib.hid hr
  have HU := Lib.hid (fun w hr => refPutU32_any A n c s w hn hr (by omega) (vs.length : Int))
  obtain ⟨goal, hgoal⟩ : ∃ goal, Oct.putVals s vs = goal := ⟨_, rfl⟩
  have hgoal2 : Oct.putAll (Oct.putU32 s (vs.length : Int)) vs = goal := hgoal
  rw [hgoal]
  have hlu := Oct.putU32_len s (vs.length : Int)
  generalize Oct.putU32 s (vs.length : Int) = s1 at HU hgoal2 hlu
  have HGO := Lib.hid hgoal2
  clear hgoal hgoal2 hr
  go_enter Try.func78, Try.ntmps78
  go_wp2_with fail
  refine at_world (F := fun w' => Var w' (w.heap.size) #[.slice A n c, .int .i64 s.err] 41 ∧ Var w' (w.heap.size + 1) #[.slice none 0 0, .int .i64 0] 41 ∧ Below w.heap.size w w') ⟨(Var.new w _ _).alloc _, Var.new2 w _ _ _, by go_grown⟩ ?_
  rintro w1 ⟨v_r, v_o, bw⟩
  have sz := bw.size
  refine (HU.out _ ((HR.out.below bw).more bw.size)).mono ?_
  rintro e w2 ⟨A1, c1, rfl, hA1, hb⟩
  replace v_r := v_r.below hb v_r.lt
  replace v_o := v_o.below hb v_o.lt
  replace bw := bw.trans (hb.mono bw.size)
  replace sz := bw.size
  clear hb
  have q_r := v_r.cells
  have z_r := v_r.froz
  have l_r := v_r.lt
  have q_o := v_o.cells
  have z_o := v_o.froz
  have l_o := v_o.lt
  have ne1 : 0 < s1.b.length → ∀ ad, A1 = some ad → ad.block ≠ w.heap.size := fun hp ad hA => hA1.ne_var v_r (noW _ _ _ _) hp hA
  dsimp only
  go_wp2_with fail
  go_loopw [5] (fun iv wr => ∃ k : Nat, k ≤ vs.length ∧ iv = .int .i64 k ∧ PVRel w vs goal 4000000 k wr) (fun iv _ => vs.length - (intOf iv).toNat)
  case atStart => exact ⟨0, by omega, rfl, A1, c1, s1, (v_r.set 0 _).set 1 _, (v_o.other (by omega) 0 _).other (by omega) 1 _, ((hA1.set ne1 0 _).set ne1 1 _).more (by go_size), HGO.out, by go_grown, by omega⟩
  case round =>
    clear q_r q_o z_r z_o v_r v_o bw ne1 hA1 sz l_r l_o
    obtain ⟨k, hk, rfl, A1, c1, s1, v_r, v_o, hA1, hgoal, bw, hlen1⟩ := hrel
    have sz := bw.size
    have q_r := v_r.cells
    have q_o := v_o.cells
    have z_r := v_r.froz
    have z_o := v_o.froz
    have l_r := v_r.lt
    have l_o := v_o.lt
    by_cases hkl : k < vs.length
    · obtain ⟨ad, hB, hadl, hcell⟩ := (hv.below bw).at_ hkl
      obtain ⟨t, ht⟩ : ∃ t, vs[k] = t := ⟨_, rfl⟩
      rw [ht] at hcell
      have hd := Oct.putAll_drop s1 vs k t hkl ht
      rw [hgoal] at hd
      have HD := Lib.hid hd
      have hlv := Oct.putVal_len s1 t
      have hcell' : wr.drew.cell? (ad.add k) = some (.int .i64 t) := hcell
      subst hB
      have q_r' : ∀ o, wr.drew.cell? ⟨w.heap.size, o, none⟩ = (#[.slice A1 s1.b.length c1, .int .i64 s1.err] : Array Value)[o]? := q_r
      clear hd hgoal ht
      go_wp2_with fail
      go_region_with (go_at_call 24; (refine (refPutVal_any A1 _ c1 s1 _ rfl (RdB.drew hA1) (by omega) t).mono ?_); rintro e w2 ⟨A2, c2, rfl, hA2, hb⟩; replace v_r := (Var.drew v_r).below hb v_r.lt; replace v_o := (Var.drew v_o).below hb v_o.lt; replace bw := bw.drew.trans (hb.mono (show w.heap.size ≤ wr.drew.heap.size from sz)); have sz2 := bw.size; clear q_r q_o z_r z_o q_r'; have q_r := v_r.cells; have z_r := v_r.froz)
      all_goals
        (try dsimp only)
        repeat (first | go_values | go_skip | go_guarded | go_step | go_upon)
        have ne2 : 0 < (Oct.putVal s1 t).b.length → ∀ ad, A2 = some ad → ad.block ≠ w.heap.size := fun hp ad hA => hA2.ne_var v_r (noW _ _ _ _) hp hA
        go_roundw
        case rel => exact ⟨k + 1, by omega, by go_num, A2, c2, Oct.putVal s1 t, (v_r.set 0 _).set 1 _, (v_o.other (by omega) 0 _).other (by omega) 1 _, ((hA2.set ne2 0 _).set ne2 1 _).more (by go_size), HD.out.symm, by go_grown, by omega⟩
        case measure => simp [intOf]; omega
    · have e0 : vs.drop k = [] := List.drop_of_length_le (by omega)
      rw [e0] at hgoal
      have HE : Hid (s1 = goal) := hgoal
      clear e0 hgoal
      (try dsimp only)
      repeat (first | go_values | go_skip | go_guarded | go_step | go_upon)
      refine bodyPost_ret (v := .agg #[.slice A1 s1.b.length c1, .int .i64 s1.err]) (by simp [results, Try.results78, go_sem, q_r, l_r, q_o, l_o]) rfl ?_
      rw [← HE.out]
      have ne1 : 0 < s1.b.length → ∀ ad, A1 = some ad → ad.block ≠ w.heap.size + 1 := fun hp ad hA => hA1.ne_var v_o (noW _ _ _ _) hp hA
      exact ⟨A1, c1, rfl, ((hA1.set ne1 0 _).set ne1 1 _).more (by go_size), by go_grown⟩

set_option maxHeartbeats 8000000 in
set_option maxRecDepth 100000 in
theorem refPutFunc_any (A : Option Addr) (n c : Nat) (s : Oct.Wt) (w : World) (hn : s.b.length = n) (hr : RdB w w.heap.size A s.b) (hlen : s.b.length ≤ 1000000) (A1 A2 : Option Addr) (d1 d2 : Nat) (ps rs : List Int) (hp : RdI w w.heap.size A1 ps) (hq : RdI w w.heap.size A2 rs) (hpl : ps.length ≤ 100000) (hql : rs.length ≤ 100000) :
    Calls Try.prog 40 #[.agg #[.slice A n c, .int .i64 s.err], .agg #[.slice A1 ps.length d1, .slice A2 rs.length d2]] w (RPut (Oct.putFunc s ps rs) w) := by
  have HR := Lib.hid hr
  have HP := Lib.hid hp
  have HQ := Lib.hid hq
  have HL1 := Lib.hid (fun (w : World) (hw : RdI w w.heap.size A1 ps) => refVals10_any A1 d1 ps w _ hw (by omega))
  have HL2 := Lib.hid (fun (w : World) (hw : RdI w w.heap.size A2 rs) => refVals10_any A2 d2 rs w _ hw (by omega))
  have HF := Lib.hid (fun w hr e => refPutFail_any A n c s e w hn hr)
  clear hr hp hq
  by_cases e1 : Oct.listErr ps = 0
  · rw [e1] at HL1
    by_cases e2 : Oct.listErr rs = 0
    · rw [show Oct.putFunc s ps rs = Oct.putVals (Oct.putVals (s.bytes [Oct.b8 96]) ps) rs by unfold Oct.putFunc; rw [if_pos e1, if_pos e2]; rfl]
      rw [e2] at HL2
      have hl1 := Oct.bytes_len s [Oct.b8 96]
      simp at hl1
      have hl2 := Oct.putVals_len (s.bytes [Oct.b8 96]) ps
      clear e1 e2
      go_enter Try.func40, Try.ntmps40
      go_wp2_with fail
      refine at_world (F := fun w' => Var w' (w.heap.size) #[.slice A n c, .int .i64 s.err] 41 ∧ Var w' (w.heap.size + 1) #[.slice A1 ps.length d1, .slice A2 rs.length d2] 76 ∧ Var w' (w.heap.size + 2) #[.slice none 0 0, .int .i64 0] 41 ∧ Below w.heap.size w w') ⟨((Var.new w _ _).alloc _).alloc _, (Var.new2 w _ _ _).alloc _, Var.new3 w _ _ _ _, by go_grown⟩ ?_
      rintro w1 ⟨v_r, v_f, v_o, bw⟩
      have sz := bw.size
      refine (HL1.out _ ((HP.out.below bw).more bw.size)).mono ?_
      rintro e wq ⟨rfl, rfl⟩
      have q_r := v_r.cells
      have z_r := v_r.froz
      have l_r := v_r.lt
      have q_f := v_f.cells
      have z_f := v_f.froz
      have l_f := v_f.lt
      have q_o := v_o.cells
      have z_o := v_o.froz
      have l_o := v_o.lt
      go_wp2_with fail
      refine at_world (F := fun w' => Var w' (w.heap.size) #[.slice A n c, .int .i64 s.err] 41 ∧ Var w' (w.heap.size + 1) #[.slice A1 ps.length d1, .slice A2 rs.length d2] 76 ∧ Var w' (w.heap.size + 2) #[.slice none 0 0, .int .i64 0] 41 ∧ Below w.heap.size w w') ⟨v_r, v_f, v_o, by go_grown⟩ ?_
      clear q_r z_r l_r q_f z_f l_f q_o z_o l_o v_r v_f v_o bw sz
      rintro w2 ⟨v_r, v_f, v_o, bw⟩
      have sz := bw.size
      refine (HL2.out _ ((HQ.out.below bw).more bw.size)).mono ?_
      rintro e wq ⟨rfl, rfl⟩
      have q_r := v_r.cells
      have z_r := v_r.froz
      have l_r := v_r.lt
      have q_f := v_f.cells
      have z_f := v_f.froz
      have l_f := v_f.lt
      have q_o := v_o.cells
      have z_o := v_o.froz
      have l_o := v_o.lt
      go_wp2_with fail
      refine at_code (F := fun w' => Var w' (w.heap.size) #[.slice A n c, .int .i64 s.err] 41 ∧ Var w' (w.heap.size + 1) #[.slice A1 ps.length d1, .slice A2 rs.length d2] 76 ∧ Var w' (w.heap.size + 2) #[.slice none 0 0, .int .i64 0] 41 ∧ Below w.heap.size w w') ⟨v_r, v_f, v_o, by go_grown⟩ ?_
      clear q_r z_r l_r v_r q_f z_f l_f v_f q_o z_o l_o v_o bw sz
      rintro W0 ⟨v_r, v_f, v_o, bw⟩
      have sz := bw.size
      have szd : w.heap.size ≤ W0.drew.heap.size := sz
      have c_r0 : W0.cell? ⟨w.heap.size, 0, none⟩ = some (.slice A n c) := v_r.cells 0
      have c_r1 : W0.cell? ⟨w.heap.size, 1, none⟩ = some (.int .i64 s.err) := v_r.cells 1
      have c_f0 : W0.cell? ⟨w.heap.size + 1, 0, none⟩ = some (.slice A1 ps.length d1) := v_f.cells 0
      have c_f1 : W0.cell? ⟨w.heap.size + 1, 1, none⟩ = some (.slice A2 rs.length d2) := v_f.cells 1
      have c_o0 : W0.cell? ⟨w.heap.size + 2, 0, none⟩ = some (.slice none 0 0) := v_o.cells 0
      have c_o1 : W0.cell? ⟨w.heap.size + 2, 1, none⟩ = some (.int .i64 0) := v_o.cells 1
      have z_o := v_o.froz
      (try simp only [Nat.add_assoc, Nat.reduceAdd])
      go_region_held3 (fun w' => w'.cell? ⟨w.heap.size, 0, none⟩ = some (.slice A n c) ∧ w'.cell? ⟨w.heap.size, 1, none⟩ = some (.int .i64 s.err) ∧ w'.cell? ⟨w.heap.size + 1, 0, none⟩ = some (.slice A1 ps.length d1) ∧ w'.cell? ⟨w.heap.size + 1, 1, none⟩ = some (.slice A2 rs.length d2))
        (go_keep)
        (first
          | (go_at_call 60; ((with_reducible refine (refPutByte_any A n c s _ hn ((HR.out.below bw.drew).more szd) (by omega) 96 (by decide) (by decide)).mono ?_); rintro e w20 ⟨A4, c4, rfl, hA4, hb⟩); replace v_r := (Var.drew v_r).below hb v_r.lt; replace v_f := (Var.drew v_f).below hb v_f.lt; replace v_o := (Var.drew v_o).below hb v_o.lt; replace bw := bw.drew.trans (hb.mono szd); replace sz := bw.size; clear hb z_o c_r0 c_r1 c_f0 c_f1 c_o0 c_o1; have c_r0 : w20.cell? ⟨w.heap.size, 0, none⟩ = some (.slice A n c) := v_r.cells 0; have c_r1 : w20.cell? ⟨w.heap.size, 1, none⟩ = some (.int .i64 s.err) := v_r.cells 1; have c_f0 : w20.cell? ⟨w.heap.size + 1, 0, none⟩ = some (.slice A1 ps.length d1) := v_f.cells 0; have c_f1 : w20.cell? ⟨w.heap.size + 1, 1, none⟩ = some (.slice A2 rs.length d2) := v_f.cells 1; have c_o0 : w20.cell? ⟨w.heap.size + 2, 0, none⟩ = some (.slice none 0 0) := v_o.cells 0; have c_o1 : w20.cell? ⟨w.heap.size + 2, 1, none⟩ = some (.int .i64 0) := v_o.cells 1; have z_o := v_o.froz)
          | (go_at_call 78; ((with_reducible refine (refPutVals_any A4 _ c4 (s.bytes [Oct.b8 96]) _ rfl hA4 (by omega) A1 d1 _ ps rfl ((HP.out.below bw).more sz) (by omega)).mono ?_); rintro e w21 ⟨A5, c5, rfl, hA5, hb⟩); replace v_r := v_r.below hb v_r.lt; replace v_f := v_f.below hb v_f.lt; replace v_o := v_o.below hb v_o.lt; replace bw := bw.trans (hb.mono sz); replace sz := bw.size; clear hb z_o c_r0 c_r1 c_f0 c_f1 c_o0 c_o1; have c_r0 : w21.cell? ⟨w.heap.size, 0, none⟩ = some (.slice A n c) := v_r.cells 0; have c_r1 : w21.cell? ⟨w.heap.size, 1, none⟩ = some (.int .i64 s.err) := v_r.cells 1; have c_f0 : w21.cell? ⟨w.heap.size + 1, 0, none⟩ = some (.slice A1 ps.length d1) := v_f.cells 0; have c_f1 : w21.cell? ⟨w.heap.size + 1, 1, none⟩ = some (.slice A2 rs.length d2) := v_f.cells 1; have c_o0 : w21.cell? ⟨w.heap.size + 2, 0, none⟩ = some (.slice none 0 0) := v_o.cells 0; have c_o1 : w21.cell? ⟨w.heap.size + 2, 1, none⟩ = some (.int .i64 0) := v_o.cells 1; have z_o := v_o.froz)
          | (go_at_call 78; ((with_reducible refine (refPutVals_any A5 _ c5 (Oct.putVals (s.bytes [Oct.b8 96]) ps) _ rfl hA5 (by omega) A2 d2 _ rs rfl ((HQ.out.below bw).more sz) (by omega)).mono ?_); rintro e w22 ⟨A6, c6, rfl, hA6, hb⟩); replace v_r := v_r.below hb v_r.lt; replace v_f := v_f.below hb v_f.lt; replace v_o := v_o.below hb v_o.lt; replace bw := bw.trans (hb.mono sz); replace sz := bw.size; clear hb z_o c_r0 c_r1 c_f0 c_f1 c_o0 c_o1; have c_r0 : w22.cell? ⟨w.heap.size, 0, none⟩ = some (.slice A n c) := v_r.cells 0; have c_r1 : w22.cell? ⟨w.heap.size, 1, none⟩ = some (.int .i64 s.err) := v_r.cells 1; have c_f0 : w22.cell? ⟨w.heap.size + 1, 0, none⟩ = some (.slice A1 ps.length d1) := v_f.cells 0; have c_f1 : w22.cell? ⟨w.heap.size + 1, 1, none⟩ = some (.slice A2 rs.length d2) := v_f.cells 1; have c_o0 : w22.cell? ⟨w.heap.size + 2, 0, none⟩ = some (.slice none 0 0) := v_o.cells 0; have c_o1 : w22.cell? ⟨w.heap.size + 2, 1, none⟩ = some (.int .i64 0) := v_o.cells 1; have z_o := v_o.froz))
      all_goals
        clear z_o c_r0 c_r1 c_f0 c_f1 c_o0 c_o1
        have q_r := v_r.cells
        have z_r := v_r.froz
        have l_r := v_r.lt
        have q_f := v_f.cells
        have z_f := v_f.froz
        have l_f := v_f.lt
        have q_o := v_o.cells
        have z_o := v_o.froz
        have l_o := v_o.lt
        (try dsimp only)
        repeat (first | go_values | go_skip | go_guarded | go_step | go_upon)
        refine bodyPost_ret (v := .agg #[.slice A6 (Oct.putVals (Oct.putVals (s.bytes [Oct.b8 96]) ps) rs).b.length c6, .int .i64 (Oct.putVals (Oct.putVals (s.bytes [Oct.b8 96]) ps) rs).err]) (by simp [results, Try.results40, go_sem, q_r, l_r, q_f, l_f, q_o, l_o]) rfl ?_
        exact ⟨A6, c6, rfl, ((hA6.set (fun hp ad hA => hA6.ne_var v_o (noW _ _ _ _) hp hA) 0 _).set (fun hp ad hA => hA6.ne_var v_o (noW _ _ _ _) hp hA) 1 _).more (by go_size), by go_grown⟩
    · rw [show Oct.putFunc s ps rs = s.fail (Oct.listErr rs) by unfold Oct.putFunc; rw [if_pos e1, if_neg e2]]
      have g2 : (Oct.listErr rs != 0) = true := by simpa using e2
      clear e1 e2
      go_enter Try.func40, Try.ntmps40
      go_wp2_with fail
      refine at_world (F := fun w' => Var w' (w.heap.size) #[.slice A n c, .int .i64 s.err] 41 ∧ Var w' (w.heap.size + 1) #[.slice A1 ps.length d1, .slice A2 rs.length d2] 76 ∧ Var w' (w.heap.size + 2) #[.slice none 0 0, .int .i64 0] 41 ∧ Below w.heap.size w w') ⟨((Var.new w _ _).alloc _).alloc _, (Var.new2 w _ _ _).alloc _, Var.new3 w _ _ _ _, by go_grown⟩ ?_
      rintro w1 ⟨v_r, v_f, v_o, bw⟩
      have sz := bw.size
      refine (HL1.out _ ((HP.out.below bw).more bw.size)).mono ?_
      rintro e wq ⟨rfl, rfl⟩
      have q_r := v_r.cells
      have z_r := v_r.froz
      have l_r := v_r.lt
      have q_f := v_f.cells
      have z_f := v_f.froz
      have l_f := v_f.lt
      have q_o := v_o.cells
      have z_o := v_o.froz
      have l_o := v_o.lt
      go_wp2_with fail
      refine at_world (F := fun w' => Var w' (w.heap.size) #[.slice A n c, .int .i64 s.err] 41 ∧ Var w' (w.heap.size + 1) #[.slice A1 ps.length d1, .slice A2 rs.length d2] 76 ∧ Var w' (w.heap.size + 2) #[.slice none 0 0, .int .i64 0] 41 ∧ Below w.heap.size w w') ⟨v_r, v_f, v_o, by go_grown⟩ ?_
      clear q_r z_r l_r q_f z_f l_f q_o z_o l_o v_r v_f v_o bw sz
      rintro w2 ⟨v_r, v_f, v_o, bw⟩
      have sz := bw.size
      refine (HL2.out _ ((HQ.out.below bw).more bw.size)).mono ?_
      rintro e wq ⟨rfl, rfl⟩
      have q_r := v_r.cells
      have z_r := v_r.froz
      have l_r := v_r.lt
      have q_f := v_f.cells
      have z_f := v_f.froz
      have l_f := v_f.lt
      have q_o := v_o.cells
      have z_o := v_o.froz
      have l_o := v_o.lt
      go_wp2_with fail
      refine at_world (F := fun w' => Var w' (w.heap.size) #[.slice A n c, .int .i64 s.err] 41 ∧ Var w' (w.heap.size + 1) #[.slice A1 ps.length d1, .slice A2 rs.length d2] 76 ∧ Var w' (w.heap.size + 2) #[.slice none 0 0, .int .i64 0] 41 ∧ Below w.heap.size w w') ⟨v_r, v_f, v_o, by go_grown⟩ ?_
      clear q_r z_r l_r q_f z_f l_f q_o z_o l_o v_r v_f v_o bw sz
      rintro w3 ⟨v_r, v_f, v_o, bw⟩
      have sz := bw.size
      refine (HF.out _ ((HR.out.below bw).more bw.size) _).mono ?_
      rintro e w4 ⟨A6, c6, rfl, hA6, hb⟩
      replace v_r := v_r.below hb v_r.lt
      replace v_f := v_f.below hb v_f.lt
      replace v_o := v_o.below hb v_o.lt
      replace bw := bw.trans (hb.mono bw.size)
      replace sz := bw.size
      clear hb
      have q_r := v_r.cells
      have z_r := v_r.froz
      have l_r := v_r.lt
      have q_f := v_f.cells
      have z_f := v_f.froz
      have l_f := v_f.lt
      have q_o := v_o.cells
      have z_o := v_o.froz
      have l_o := v_o.lt
      (try dsimp only)
      repeat (first | go_values | go_skip | go_guarded | go_step | go_upon)
      refine bodyPost_ret (v := .agg #[.slice A6 (s.fail (Oct.listErr rs)).b.length c6, .int .i64 (s.fail (Oct.listErr rs)).err]) (by simp [results, Try.results40, go_sem, q_r, l_r, q_f, l_f, q_o, l_o]) rfl ?_
      exact ⟨A6, c6, rfl, ((hA6.set (fun hp ad hA => hA6.ne_var v_o (noW _ _ _ _) hp hA) 0 _).set (fun hp ad hA => hA6.ne_var v_o (noW _ _ _ _) hp hA) 1 _).more (by go_size), by go_grown⟩
  · rw [show Oct.putFunc s ps rs = s.fail (Oct.listErr ps) by unfold Oct.putFunc; rw [if_neg e1]]
    have g1 : (Oct.listErr ps == 0) = false := by simpa using e1
    have g2 : (Oct.listErr ps != 0) = true := by simpa using e1
    clear e1
    go_enter Try.func40, Try.ntmps40
    go_wp2_with fail
    refine at_world (F := fun w' => Var w' (w.heap.size) #[.slice A n c, .int .i64 s.err] 41 ∧ Var w' (w.heap.size + 1) #[.slice A1 ps.length d1, .slice A2 rs.length d2] 76 ∧ Var w' (w.heap.size + 2) #[.slice none 0 0, .int .i64 0] 41 ∧ Below w.heap.size w w') ⟨((Var.new w _ _).alloc _).alloc _, (Var.new2 w _ _ _).alloc _, Var.new3 w _ _ _ _, by go_grown⟩ ?_
    rintro w1 ⟨v_r, v_f, v_o, bw⟩
    have sz := bw.size
    refine (HL1.out _ ((HP.out.below bw).more bw.size)).mono ?_
    rintro e wq ⟨rfl, rfl⟩
    have q_r := v_r.cells
    have z_r := v_r.froz
    have l_r := v_r.lt
    have q_f := v_f.cells
    have z_f := v_f.froz
    have l_f := v_f.lt
    have q_o := v_o.cells
    have z_o := v_o.froz
    have l_o := v_o.lt
    go_wp2_with fail
    refine at_world (F := fun w' => Var w' (w.heap.size) #[.slice A n c, .int .i64 s.err] 41 ∧ Var w' (w.heap.size + 1) #[.slice A1 ps.length d1, .slice A2 rs.length d2] 76 ∧ Var w' (w.heap.size + 2) #[.slice none 0 0, .int .i64 0] 41 ∧ Below w.heap.size w w') ⟨v_r, v_f, v_o, by go_grown⟩ ?_
    clear q_r z_r l_r q_f z_f l_f q_o z_o l_o v_r v_f v_o bw sz
    rintro w2 ⟨v_r, v_f, v_o, bw⟩
    have sz := bw.size
    refine (HF.out _ ((HR.out.below bw).more bw.size) _).mono ?_
    rintro e w3 ⟨A6, c6, rfl, hA6, hb⟩
    replace v_r := v_r.below hb v_r.lt
    replace v_f := v_f.below hb v_f.lt
    replace v_o := v_o.below hb v_o.lt
    replace bw := bw.trans (hb.mono bw.size)
    replace sz := bw.size
    clear hb
    have q_r := v_r.cells
    have z_r := v_r.froz
    have l_r := v_r.lt
    have q_f := v_f.cells
    have z_f := v_f.froz
    have l_f := v_f.lt
    have q_o := v_o.cells
    have z_o := v_o.froz
    have l_o := v_o.lt
    (try dsimp only)
    repeat (first | go_values | go_skip | go_guarded | go_step | go_upon)
    refine bodyPost_ret (v := .agg #[.slice A6 (s.fail (Oct.listErr ps)).b.length c6, .int .i64 (s.fail (Oct.listErr ps)).err]) (by simp [results, Try.results40, go_sem, q_r, l_r, q_f, l_f, q_o, l_o]) rfl ?_
    exact ⟨A6, c6, rfl, ((hA6.set (fun hp ad hA => hA6.ne_var v_o (noW _ _ _ _) hp hA) 0 _).set (fun hp ad hA => hA6.ne_var v_o (noW _ _ _ _) hp hA) 1 _).more (by go_size), by go_grown⟩
end Go.Proofs.Ytagcildoebicnaa
