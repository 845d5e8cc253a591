/-
  The writes of layer 10: lists of value types, function types.
-/
import Derived.Test.YtagcildoebicnaaBtPut2
import Derived.LoopN
set_option linter.unusedVariables false
namespace Go.Proofs.Ytagcildoebicnaa
open Go.RowKit

set_option maxHeartbeats 1000000 in
set_option maxRecDepth 100000 in
theorem list_any (A : Option Addr) (c : Nat) (vs : List Int) (w : World) (B : Nat) (hr : RdI w B A vs) (hl : vs.length ≤ 1000000) :
    Calls Try.prog 74 #[.slice A vs.length c] w fun e w' => e = .returned (.int .i64 (Oct.listErr vs)) ∧ w = w' := by
  by_cases h8 : 8 < vs.length
  · have HV := Lib.hid (show Oct.listErr vs = 6 from if_pos h8)
    have g1 : decide (8 < vs.length) = true := by simpa using h8
    have g2 : decide ((8 : Int) < (vs.length : Int)) = true := by simp; omega
    clear h8
    go_enter Try.func74, Try.ntmps74
    go_wp2
    go_ret
    exact ⟨by rw [HV.out]; rfl, rfl⟩
  have HV := Lib.hid (show Oct.listErr vs = if vs.all Ty.val = true then 0 else 12 from if_neg h8)
  have g1 : decide (8 < vs.length) = false := by simpa using h8
  have g2 : decide ((8 : Int) < (vs.length : Int)) = false := by simp; omega
  clear h8
  go_enter Try.func74, Try.ntmps74
  go_wp2
  go_loop [10] (fun i => ∃ k : Nat, k ≤ vs.length ∧ i = .int .i64 k ∧ Hid (vs.all Ty.val = (vs.drop k).all Ty.val)) (fun i => vs.length - (intOf i).toNat)
  case atStart => exact ⟨0, by omega, rfl, by simp [Hid]⟩
  case round =>
    obtain ⟨k, hk, rfl, HR⟩ := hrel
    by_cases hkl : k < vs.length
    · obtain ⟨ad, rfl, _, hcell⟩ := hr.at_ hkl
      obtain ⟨t, ht⟩ : ∃ t, vs[k] = t := ⟨_, rfl⟩
      rw [ht] at hcell
      have hd : vs.drop k = t :: vs.drop (k + 1) := drop_eq_cons hkl ht
      rcases hv : Ty.val t with _ | _
      · have hf : Hid (Oct.listErr vs = 12) := by unfold Hid; rw [HV.out, HR.out, hd, List.all_cons, hv]; rfl
        have HT := Lib.hid hv
        clear hv ht hd
        go_wp2_with (go_at_call 50; refine (val_any _ _).mono ?_; rintro e w1 ⟨rfl, rfl⟩; rw [HT.out])
        go_ret
        exact ⟨by rw [hf.out]; rfl, rfl⟩
      · have hf : Hid (vs.all Ty.val = (vs.drop (k + 1)).all Ty.val) := by unfold Hid; rw [HR.out, hd, List.all_cons, hv, Bool.true_and]
        have HT := Lib.hid hv
        clear hv ht hd
        go_wp2_with (go_at_call 50; refine (val_any _ _).mono ?_; rintro e w1 ⟨rfl, rfl⟩; rw [HT.out])
        go_round
        case rel => exact ⟨k + 1, by omega, by go_num, hf⟩
        case measure => simp [intOf]; omega
    · have hf : Hid (Oct.listErr vs = 0) := by
        unfold Hid
        rw [HV.out, HR.out, List.drop_of_length_le (by omega), List.all_nil]; rfl
      go_wp2
      go_ret
      exact ⟨by rw [hf.out]; rfl, rfl⟩

/-- A list of value types that lies apart from a Writer. -/
structure Lst (w : World) (p v : Value) (A : Option Addr) (vs : List Int) : Prop where
  rd : RdI w w.heap.size A vs
  out : 0 < vs.length → ∀ ad, A = some ad → ¬ Ft p v ad.block
theorem Lst.below {w w' : World} {p v : Value} {A : Option Addr} {vs : List Int} (h : Lst w p v A vs) (hb : Below w.heap.size w w') : Lst w' p v A vs :=
  ⟨(h.rd.below hb).more hb.size, h.out⟩
theorem Lst.step {w w' : World} {B : Nat} {p v v1 : Value} {A : Option Addr} {vs : List Int} (h : Lst w p v A vs) (t : Trn w w' B (Ft p v) (Ft p v1)) : Lst w' p v1 A vs := by
  have hs := t.bel.size
  refine ⟨⟨h.rd.1, fun hn => ?_⟩, fun hn ad hA hf => ?_⟩
  · obtain ⟨ad, e, hb, hc⟩ := h.rd.2 hn
    refine ⟨ad, e, by omega, fun j u hu => ?_⟩
    rw [← hc j u hu]
    exact World.cell?_of_block (t.far _ (by rw [block_of_add]; exact hb) (by rw [block_of_add]; exact h.out hn ad e))
  · obtain ⟨ad', e, hb, hc⟩ := h.rd.2 hn
    rw [hA] at e; injection e with e; subst e
    rcases t.new _ hf with h1 | h1
    · exact h.out hn ad hA h1
    · omega

namespace Oct
theorem putAll_drop (s : Wt) (vs : List Int) (k : Nat) (t : Int) (h : k < vs.length) (ht : vs[k] = t) : putAll s (vs.drop k) = putAll (putVal s t) (vs.drop (k + 1)) := by
  rw [drop_eq_cons h ht]; rfl
theorem putAll_len (l : List Int) : ∀ s : Wt, (putAll s l).b.length ≤ s.b.length + l.length := by
  induction l with
  | nil => intro s; exact Nat.le_refl _
  | cons t l ih =>
    intro s
    have h1 := ih (putVal s t)
    have h2 := putVal_len s t
    show (putAll (putVal s t) l).b.length ≤ _
    simp; omega
theorem putVals_len (s : Wt) (l : List Int) : (putVals s l).b.length ≤ s.b.length + l.length + 10 := by
  have h1 := putAll_len l (putU32 s (l.length : Int))
  have h2 := putU32_len s (l.length : Int)
  show (putAll (putU32 s (l.length : Int)) l).b.length ≤ _
  omega
end Oct

/-- What the loop over a list of value types keeps. -/
def PutLoop (W : World) (B : Nat) (p v : Value) (K : Nat) (bc : Array Value) (A1 A2 : Option Addr) (ps rs : List Int) (goal : Oct.Wt) (left : List Int) (N : Nat) (wr : World) : Prop :=
  ∃ v' s', WrAt wr B p v' s' ∧ Trn W wr B (Ft p v) (Ft p v') ∧ Oct.putAll s' left = goal ∧ Box wr K bc p v' ∧ Lst wr p v' A1 ps ∧ Lst wr p v' A2 rs ∧ s'.b.length + left.length ≤ N

set_option maxHeartbeats 4000000 in
set_option maxRecDepth 100000 in
theorem putFunc_any {W : World} {B : Nat} {p v : Value} {s : Oct.Wt} (h : WrAt W B p v s) (A1 A2 : Option Addr) (c1 c2 : Nat) (ps rs : List Int) (L1 : Lst W p v A1 ps) (L2 : Lst W p v A2 rs) (hlen : s.b.length ≤ 1000000) (hp : ps.length ≤ 100000) (hq : rs.length ≤ 100000) :
    Calls Try.prog 37 #[p, .agg #[.slice A1 ps.length c1, .slice A2 rs.length c2]] W fun e w' => e = .returned (.tuple #[]) ∧ WStep W B p v (Oct.putFunc s ps rs) w' := by
  have hb : Below W.heap.size W (W.alloc (.cells #[.slice A1 ps.length c1, .slice A2 rs.length c2] 76)) := (Below.refl _ _).alloc (Nat.le_refl _) _
  have hb' : Below W.heap.size W ((W.alloc (.cells #[.slice A1 ps.length c1, .slice A2 rs.length c2] 76)).alloc (.cells #[.slice A1 ps.length c1, .slice A2 rs.length c2] 74)) := hb.alloc (by simp) _
  have hB := h.base
  have h0 := h.below hb'
  have M1 := L1.below hb'
  have M2 := L2.below hb'
  have bx : Box ((W.alloc (.cells #[.slice A1 ps.length c1, .slice A2 rs.length c2] 76)).alloc (.cells #[.slice A1 ps.length c1, .slice A2 rs.length c2] 74)) (W.heap.size + 1) #[.slice A1 ps.length c1, .slice A2 rs.length c2] p v :=
    ⟨fun o => cell_of_row _ _ _ _ _ _ (heap_alloc2_new W _ _), by simp, h.not_ft (by omega)⟩
  have T0 := Trn.of_below (F := Ft p v) hB hb'
  have HL1 := Lib.hid (fun (w : World) (hw : RdI w w.heap.size A1 ps) => list_any A1 c1 ps w _ hw (by omega))
  have HL2 := Lib.hid (fun (w : World) (hw : RdI w w.heap.size A2 rs) => list_any A2 c2 rs w _ hw (by omega))
  by_cases e1 : Oct.listErr ps = 0
  · by_cases e2 : Oct.listErr rs = 0
    · have hp0 : Hid (Oct.putFunc s ps rs = Oct.putVals (Oct.putVals (s.bytes [Oct.b8 96]) ps) rs) := by unfold Hid Oct.putFunc; rw [if_pos e1, if_pos e2]; rfl
      rw [e1] at HL1; rw [e2] at HL2
      clear e1 e2
      have q0 := bx.cells
      go_enter Try.func37, Try.ntmps37
      go_wp2_with fail
      refine wp_loop_rounds 3 ?_
      rw [rounds_succ]
      go_wp2_with fail
      refine (HL1.out _ M1.rd).mono ?_
      rintro e w1 ⟨rfl, rfl⟩
      go_wp2_with fail
      rw [rounds_succ]
      go_wp2_with fail
      refine (HL2.out _ M2.rd).mono ?_
      rintro e w1 ⟨rfl, rfl⟩
      go_wp2_with fail
      rw [rounds_succ]
      go_wp2_with fail
      refine (wbyte_any h0 96 (by decide) (by decide) (by omega)).mono ?_
      rintro e w2 ⟨rfl, v2, h2, t2⟩
      have bx2 := bx.step t2
      have q2 := bx2.cells
      have l2 := Oct.bytes_len s [Oct.b8 96]
      simp at l2
      have M1' := M1.step t2
      have M2' := M2.step t2
      have T2 := T0.trans t2
      clear q0 h0 t2 bx M1 M2 T0
      go_wp2_with fail
      refine wp_loop_rounds 3 ?_
      rw [rounds_succ]
      go_wp2_with fail
      refine (wU32_any h2 _ (by omega)).mono ?_
      rintro e w3 ⟨rfl, v3, h3, t3⟩
      have l3 := Oct.putU32_len (s.bytes [Oct.b8 96]) (ps.length : Int)
      have R3 : PutLoop W B p v (W.heap.size + 1) #[.slice A1 ps.length c1, .slice A2 rs.length c2] A1 A2 ps rs (Oct.putVals (s.bytes [Oct.b8 96]) ps) ps (s.b.length + 11 + ps.length) w3 :=
        ⟨v3, _, h3, T2.trans t3, rfl, bx2.step t3, M1'.step t3, M2'.step t3, by omega⟩
      clear q2 h2 bx2 M1' M2' t3 h3 T2
      go_wp2_with fail
      go_loopw [45] (fun kv wr => ∃ k : Nat, k ≤ ps.length ∧ kv = .int .i64 k ∧ PutLoop W B p v (W.heap.size + 1) #[.slice A1 ps.length c1, .slice A2 rs.length c2] A1 A2 ps rs (Oct.putVals (s.bytes [Oct.b8 96]) ps) (ps.drop k) (s.b.length + 11 + ps.length) wr) (fun kv _ => ps.length - (intOf kv).toNat)
      case atStart => exact ⟨0, by omega, rfl, R3⟩
      case round =>
        clear R3
        obtain ⟨k, hk, rfl, v4, s4, h4, T4, g4, bx4, N1, N2, len4⟩ := hrel
        by_cases hkl : k < ps.length
        · obtain ⟨ad, hA, _, hcell⟩ := N1.rd.at_ hkl
          obtain ⟨t, ht⟩ : ∃ t, ps[k] = t := ⟨_, rfl⟩
          rw [ht] at hcell
          have hd := Oct.putAll_drop s4 ps k t hkl ht
          rw [g4] at hd
          have HD := Lib.hid hd
          have HG := Lib.hid g4
          have l4 := Oct.putVal_len s4 t
          have hlen4 : (ps.drop k).length = ps.length - k := List.length_drop
          have HLD := Lib.hid hlen4
          have hl4 : s4.b.length ≤ 9000000 := by omega
          subst hA
          clear hd g4 ht hlen4
          go_wp2_with fail
          refine (putVal_any h4 t hl4).mono ?_
          rintro e w5 ⟨rfl, v5, h5, t5⟩
          go_wp2
          go_roundw
          case rel => exact ⟨k + 1, by omega, by go_num, v5, _, h5, T4.trans t5, HD.out.symm, bx4.step t5, N1.step t5, N2.step t5, by rw [List.length_drop]; have := HLD.out; omega⟩
          case measure => simp [intOf]; omega
        · have e4 : ps.drop k = [] := List.drop_of_length_le (by omega)
          rw [e4] at g4 len4
          have G4 : s4 = Oct.putVals (s.bytes [Oct.b8 96]) ps := g4
          clear g4 e4
          simp only [List.length_nil, Nat.add_zero] at len4
          have q4 := bx4.cells
          go_wp2_with fail
          rw [rounds_succ]
          go_wp2_with fail
          refine (wU32_any h4 _ (by omega)).mono ?_
          rintro e w5 ⟨rfl, v5, h5, t5⟩
          have l5 := Oct.putU32_len s4 (rs.length : Int)
          have R5 : PutLoop W B p v (W.heap.size + 1) #[.slice A1 ps.length c1, .slice A2 rs.length c2] A1 A2 ps rs (Oct.putVals s4 rs) rs (s.b.length + 21 + ps.length + rs.length) w5 :=
            ⟨v5, _, h5, T4.trans t5, rfl, bx4.step t5, N1.step t5, N2.step t5, by omega⟩
          have Hk := Lib.hid hk
          clear q4 h4 bx4 N1 N2 t5 h5 T4 l5 len4 hkl hk
          go_wp2_with fail
          go_loopw [45] (fun kv wr => ∃ k : Nat, k ≤ rs.length ∧ kv = .int .i64 k ∧ PutLoop W B p v (W.heap.size + 1) #[.slice A1 ps.length c1, .slice A2 rs.length c2] A1 A2 ps rs (Oct.putVals s4 rs) (rs.drop k) (s.b.length + 21 + ps.length + rs.length) wr) (fun kv _ => rs.length - (intOf kv).toNat)
          case atStart => exact ⟨0, by omega, rfl, R5⟩
          case round =>
            clear R5
            obtain ⟨j, hj, rfl, v6, s6, h6, T6, g6, bx6, N1, N2, len6⟩ := hrel
            by_cases hjl : j < rs.length
            · obtain ⟨ad, hA, _, hcell⟩ := N2.rd.at_ hjl
              obtain ⟨t, ht⟩ : ∃ t, rs[j] = t := ⟨_, rfl⟩
              rw [ht] at hcell
              have hd := Oct.putAll_drop s6 rs j t hjl ht
              rw [g6] at hd
              have HD := Lib.hid hd
              have l6 := Oct.putVal_len s6 t
              have hlen6 : (rs.drop j).length = rs.length - j := List.length_drop
              have HLD := Lib.hid hlen6
              have hl6 : s6.b.length ≤ 9000000 := by omega
              subst hA
              clear hd g6 ht hlen6
              go_wp2_with fail
              refine (putVal_any h6 t hl6).mono ?_
              rintro e w7 ⟨rfl, v7, h7, t7⟩
              go_wp2
              go_roundw
              case rel => exact ⟨j + 1, by omega, by go_num, v7, _, h7, T6.trans t7, HD.out.symm, bx6.step t7, N1.step t7, N2.step t7, by rw [List.length_drop]; have := HLD.out; omega⟩
              case measure => simp [intOf]; omega
            · have e6 : rs.drop j = [] := List.drop_of_length_le (by omega)
              rw [e6] at g6
              have G6 : Hid (s6 = Oct.putFunc s ps rs) := by unfold Hid; rw [hp0.out, ← G4]; exact g6
              clear g6 e6 len6
              go_wp2_with fail
              rw [rounds_succ]
              go_wp2
              go_end0
              exact ⟨rfl, v6, by rw [← G6.out]; exact h6, T6⟩
    · have hp0 : Oct.putFunc s ps rs = s.fail (Oct.listErr rs) := by unfold Oct.putFunc; rw [if_pos e1, if_neg e2]
      rw [hp0]
      rw [e1] at HL1
      have g2 : (Oct.listErr rs != 0) = true := by simpa using e2
      clear e1 e2 hp0
      have q0 := bx.cells
      go_enter Try.func37, Try.ntmps37
      go_wp2_with fail
      refine wp_loop_rounds 2 ?_
      rw [rounds_succ]
      go_wp2_with fail
      refine (HL1.out _ M1.rd).mono ?_
      rintro e w1 ⟨rfl, rfl⟩
      go_wp2_with fail
      rw [rounds_succ]
      go_wp2_with fail
      refine (HL2.out _ M2.rd).mono ?_
      rintro e w1 ⟨rfl, rfl⟩
      go_wp2_with fail
      refine (wfail_any h0 _).mono ?_
      rintro e w2 ⟨rfl, hst⟩
      go_wp2
      (try simp only [Exit.inBlock, Exit.then]); refine bodyPost_ret (results_none rfl _ _ _) rfl ?_
      exact ⟨rfl, .trans T0 hst⟩
  · have hp0 : Oct.putFunc s ps rs = s.fail (Oct.listErr ps) := by unfold Oct.putFunc; rw [if_neg e1]
    rw [hp0]
    have g1 : (Oct.listErr ps != 0) = true := by simpa using e1
    clear e1 hp0
    go_enter Try.func37, Try.ntmps37
    go_wp2_with fail
    refine wp_loop_rounds 1 ?_
    rw [rounds_succ]
    go_wp2_with fail
    refine (HL1.out _ M1.rd).mono ?_
    rintro e w1 ⟨rfl, rfl⟩
    go_wp2_with fail
    refine (wfail_any h0 _).mono ?_
    rintro e w2 ⟨rfl, hst⟩
    go_wp2
    (try simp only [Exit.inBlock, Exit.then]); refine bodyPost_ret (results_none rfl _ _ _) rfl ?_
    exact ⟨rfl, .trans T0 hst⟩
end Go.Proofs.Ytagcildoebicnaa
