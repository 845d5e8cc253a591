/-
  The reads of layer 10: value types, limits, table, global and block types.
-/
import Derived.Test.YtagcildoebicnaaBtPut2
import Derived.Handy
set_option linter.unusedVariables false
namespace Go.Proofs.Ytagcildoebicnaa
open Go.RowKit

/-- A variable of the call's own, as a block. -/
structure Bxr (w : World) (K : Nat) (cs : Array Value) (t : TypeId) (p v : Value) : Prop where
  blk : w.heap[K]? = some (.cells cs t (0, 0))
  out : ¬ Ft p v K
section
variable {w w' : World} {K B : Nat} {cs : Array Value} {t : TypeId} {p v v1 : Value} {b : List UInt8}
theorem Bxr.cells (h : Bxr w K cs t p v) : ∀ o, w.cell? ⟨K, o, none⟩ = cs[o]? := fun o => cell_of_row _ _ _ _ _ _ h.blk
theorem Bxr.froz (h : Bxr w K cs t p v) : ∀ o, w.frozen? ⟨K, o, none⟩ = false := fun o => frozen_of_row _ _ _ _ _ h.blk
theorem Bxr.new (W : World) (cs : Array Value) (e : TypeId) {p v : Value} (h : ¬ Ft p v W.heap.size) : Bxr (W.alloc (.cells cs e)) W.heap.size cs e p v := ⟨heap_alloc_new W _, h⟩
theorem Bxr.below (h : Bxr w K cs t p v) (hb : Below w.heap.size w w') : Bxr w' K cs t p v := ⟨(hb.block K (lt_of_heap h.blk)).trans h.blk, h.out⟩
theorem Bxr.trn (h : Bxr w K cs t p v) (T : Trn w w' B (Ft p v) (Ft p v)) : Bxr w' K cs t p v := ⟨(T.far K (lt_of_heap h.blk) h.out).trans h.blk, h.out⟩
theorem Bxr.step {s : Oct.St} (h : Bxr w K cs t p v) (st : RStep w B p v b s w') : Bxr w' K cs t p v := h.trn st.2
end
theorem RStep.set {W w1 : World} {B K : Nat} {p v : Value} {b : List UInt8} {s s' : Oct.St} (st : RStep W B p v b s' w1) (h : RdrAt W B p v b s) (hK : W.heap.size ≤ K) (o : Nat) (u : Value) : RStep W B p v b s' (w1.setCell ⟨K, o, none⟩ u) := by
  have hB := h.base
  refine ⟨st.1.keep (by simp) (fun k hk => Below.heap_setCell _ _ _ _ (fun e => by have := (h.ft hk).2; dsimp only at e; omega)), ?_, ?_, fun k hk => .inl hk⟩
  · exact st.2.bel.setCell (p := ⟨K, o, none⟩) (by show B ≤ K; omega) u
  · exact fun k hk hf => (Below.heap_setCell _ _ _ _ (fun e => by dsimp only at e; omega)).trans (st.2.far k hk hf)
theorem RStep.more {W w1 w2 : World} {B : Nat} {p v : Value} {b : List UInt8} {s : Oct.St} (st : RStep W B p v b s w1) (hb : Below w1.heap.size w1 w2) : RStep W B p v b s w2 := st.trans (RStep.below st.1 hb)

set_option maxHeartbeats 1000000 in
set_option maxRecDepth 100000 in
theorem getVal_any {W : World} {B : Nat} {p v : Value} {b : List UInt8} {s : Oct.St} (h : RdrAt W B p v b s) :
    Calls Try.prog 22 #[p] W fun e w' => e = .returned (.int .i64 (Oct.getVal b s).2) ∧ RStep W B p v b (Oct.getVal b s).1 w' := by
  have HC := Lib.hid (rdByte_any h)
  unfold Oct.getVal
  obtain ⟨s1, hs1⟩ : ∃ s1, (Oct.byte b s).1 = s1 := ⟨_, rfl⟩
  obtain ⟨x, hx⟩ : ∃ n, (Oct.byte b s).2 = n := ⟨_, rfl⟩
  rw [hs1, hx] at HC ⊢
  clear hs1 hx
  have HO := Lib.hid (fun w => ofByte_any x w)
  generalize Ty.ofByte x = y at HO ⊢
  obtain ⟨t, ok⟩ := y
  dsimp only at HO ⊢
  by_cases h1 : s1.err = 0
  · rw [if_pos h1]
    have g1 : (s1.err != 0) = false := by simpa using h1
    clear h1
    rcases ok with _ | _
    · rw [if_neg (by decide)]
      go_enter Try.func22, Try.ntmps22
      go_wp2_with fail
      refine HC.out.mono ?_
      rintro e w1 ⟨rfl, st1⟩
      go_wp2_with fail
      refine (err_any st1.1).mono ?_
      rintro e w2 ⟨rfl, rfl⟩
      go_wp2_with fail
      refine (HO.out _).mono ?_
      rintro e w2 ⟨rfl, rfl⟩
      go_wp2_with fail
      refine (fail_any st1.1 4).mono ?_
      rintro e w2 ⟨rfl, st2⟩
      go_wp2
      go_returns
      exact ⟨rfl, st1.trans st2⟩
    · rw [if_pos rfl]
      go_enter Try.func22, Try.ntmps22
      go_wp2_with fail
      refine HC.out.mono ?_
      rintro e w1 ⟨rfl, st1⟩
      go_wp2_with fail
      refine (err_any st1.1).mono ?_
      rintro e w2 ⟨rfl, rfl⟩
      go_wp2_with fail
      refine (HO.out _).mono ?_
      rintro e w2 ⟨rfl, rfl⟩
      go_wp2
      go_returns
      exact ⟨rfl, st1⟩
  · rw [if_neg h1]
    have g1 : (s1.err != 0) = true := by simpa using h1
    clear h1
    go_enter Try.func22, Try.ntmps22
    go_wp2_with fail
    refine HC.out.mono ?_
    rintro e w1 ⟨rfl, st1⟩
    go_wp2_with fail
    refine (err_any st1.1).mono ?_
    rintro e w2 ⟨rfl, rfl⟩
    go_wp2
    go_returns
    exact ⟨rfl, st1⟩

theorem fail_err {s : Oct.St} {e : Int} (h : s.err = 0) : (s.fail e).err = e := by unfold Oct.St.fail; rw [if_pos h]
/-- What 'if r.Err() == OK && .. { r.Fail(e) }' leaves. -/
theorem must_no {s : Oct.St} {ok : Bool} {e : Int} (h : ¬ (s.err = 0 ∧ ok = false)) : Oct.must s ok e = s := if_neg h
theorem must_yes {s : Oct.St} {e : Int} (h : s.err = 0) : Oct.must s false e = s.fail e := if_pos ⟨h, rfl⟩

set_option maxHeartbeats 1000000 in
set_option maxRecDepth 100000 in
theorem getGlobal_any {W : World} {B : Nat} {p v : Value} {b : List UInt8} {s : Oct.St} (h : RdrAt W B p v b s) :
    Calls Try.prog 34 #[p] W fun e w' => e = .returned (.agg #[.int .i64 (Oct.getGlobal b s).2.1, .bool (Oct.getGlobal b s).2.2]) ∧ RStep W B p v b (Oct.getGlobal b s).1 w' := by
  have hb : Below W.heap.size W (W.alloc (.cells #[.int .i64 0, .bool false] 67)) := (Below.refl _ _).alloc (Nat.le_refl _) _
  have bx := Bxr.new W #[.int .i64 0, .bool false] 67 (h.not_ft (Nat.le_refl _))
  have h0 := h.below hb
  have st0 := RStep.below h hb
  unfold Oct.getGlobal
  dsimp only
  have HC := Lib.hid (getVal_any h0)
  obtain ⟨s1, hs1⟩ : ∃ s1, (Oct.getVal b s).1 = s1 := ⟨_, rfl⟩
  obtain ⟨t, ht⟩ : ∃ n, (Oct.getVal b s).2 = n := ⟨_, rfl⟩
  rw [hs1, ht] at HC ⊢
  clear hs1 ht
  have HD := Lib.hid (fun (w : World) (hw : RdrAt w B p v b s1) => rdByte_any hw)
  obtain ⟨s2, hs2⟩ : ∃ s2, (Oct.byte b s1).1 = s2 := ⟨_, rfl⟩
  obtain ⟨x, hx⟩ : ∃ n, (Oct.byte b s1).2 = n := ⟨_, rfl⟩
  rw [hs2, hx] at HD ⊢
  clear hs2 hx
  by_cases h2 : s2.err = 0
  · by_cases hx1 : x ≤ 1
    · rw [must_no (by simp [hx1]), if_pos h2]
      have g1 : (s2.err != 0) = false := by simpa using h2
      have g2 : (s2.err == 0) = true := by simpa using h2
      have g3 : decide (1 < x) = false := by simp; omega
      clear h2 hx1
      go_enter Try.func34, Try.ntmps34
      go_wp2_with fail
      refine HC.out.mono ?_
      rintro e w1 ⟨rfl, st1⟩
      go_wp2_with fail
      refine (HD.out _ st1.1).mono ?_
      rintro e w2 ⟨rfl, st2⟩
      go_wp2_with fail
      refine (err_any st2.1).mono ?_
      rintro e w3 ⟨rfl, rfl⟩
      have bx2 := (bx.step st1).step st2
      have q2 := bx2.cells
      have f2 := bx2.froz
      go_wp2_with fail
      refine (err_any st2.1).mono ?_
      rintro e w3 ⟨rfl, rfl⟩
      go_wp2
      refine bodyPost_ret (v := .agg #[.int .i64 t, .bool (x == 1)]) (by simp [results, Try.results34, go_sem, q2]) rfl ?_
      exact ⟨rfl, (((st0.trans st1).trans st2).set h (Nat.le_refl _) _ _).set h (Nat.le_refl _) _ _⟩
    · have hx2 : decide (x ≤ 1) = false := by simp; omega
      rw [hx2, must_yes h2, if_neg (by rw [fail_err h2]; decide)]
      have g2 : (s2.err == 0) = true := by simpa using h2
      have g3 : decide (1 < x) = true := by simp; omega
      have g4 : ((s2.fail 4).err != 0) = true := by rw [fail_err h2]; decide
      clear h2 hx1 hx2
      go_enter Try.func34, Try.ntmps34
      go_wp2_with fail
      refine HC.out.mono ?_
      rintro e w1 ⟨rfl, st1⟩
      go_wp2_with fail
      refine (HD.out _ st1.1).mono ?_
      rintro e w2 ⟨rfl, st2⟩
      go_wp2_with fail
      refine (err_any st2.1).mono ?_
      rintro e w3 ⟨rfl, rfl⟩
      go_wp2_with fail
      refine (fail_any st2.1 4).mono ?_
      rintro e w3 ⟨rfl, st3⟩
      have bx2 := ((bx.step st1).step st2).step st3
      have q2 := bx2.cells
      have f2 := bx2.froz
      go_wp2_with fail
      refine (err_any st3.1).mono ?_
      rintro e w4 ⟨rfl, rfl⟩
      go_wp2
      refine bodyPost_ret (v := .agg #[.int .i64 0, .bool false]) (by simp [results, Try.results34, go_sem, q2]) rfl ?_
      exact ⟨rfl, ((((st0.trans st1).trans st2).trans st3).set h (Nat.le_refl _) _ _).set h (Nat.le_refl _) _ _⟩
  · rw [must_no (fun hh => h2 hh.1), if_neg h2]
    have g1 : (s2.err != 0) = true := by simpa using h2
    have g2 : (s2.err == 0) = false := by simpa using h2
    clear h2
    go_enter Try.func34, Try.ntmps34
    go_wp2_with fail
    refine HC.out.mono ?_
    rintro e w1 ⟨rfl, st1⟩
    go_wp2_with fail
    refine (HD.out _ st1.1).mono ?_
    rintro e w2 ⟨rfl, st2⟩
    go_wp2_with fail
    refine (err_any st2.1).mono ?_
    rintro e w3 ⟨rfl, rfl⟩
    have bx2 := (bx.step st1).step st2
    have q2 := bx2.cells
    have f2 := bx2.froz
    go_wp2_with fail
    refine (err_any st2.1).mono ?_
    rintro e w3 ⟨rfl, rfl⟩
    go_wp2
    refine bodyPost_ret (v := .agg #[.int .i64 0, .bool false]) (by simp [results, Try.results34, go_sem, q2]) rfl ?_
    exact ⟨rfl, (((st0.trans st1).trans st2).set h (Nat.le_refl _) _ _).set h (Nat.le_refl _) _ _⟩
end Go.Proofs.Ytagcildoebicnaa
