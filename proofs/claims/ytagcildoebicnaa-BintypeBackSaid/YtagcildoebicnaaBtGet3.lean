/-
  The reads of layer 10: table types.
-/
import Derived.Test.YtagcildoebicnaaBtGet2
set_option linter.unusedVariables false
namespace Go.Proofs.Ytagcildoebicnaa
open Go.RowKit

def TabRet (W : World) (B : Nat) (p v : Value) (b : List UInt8) (x : Oct.St × Int × Oct.Lim) (e : Ending) (w' : World) : Prop :=
  e = .returned (.agg #[.int .i64 x.2.1, .int .i64 x.2.2.mn, .int .i64 x.2.2.mx, .bool x.2.2.has]) ∧ RStep W B p v b x.1 w'

set_option maxHeartbeats 8000000 in
set_option maxRecDepth 100000 in
theorem getTable_any {W : World} {B : Nat} {p v : Value} {b : List UInt8} {s : Oct.St} (h : RdrAt W B p v b s) :
    Calls Try.prog 28 #[p] W (TabRet W B p v b (Oct.getTable b s)) := by
  have hb : Below W.heap.size W (W.alloc (.cells #[.int .i64 0, .int .i64 0, .int .i64 0, .bool false] 54)) := (Below.refl _ _).alloc (Nat.le_refl _) _
  have bx := Bxr.new W #[.int .i64 0, .int .i64 0, .int .i64 0, .bool false] 54 (h.not_ft (Nat.le_refl _))
  have h0 := h.below hb
  have st0 := RStep.below h hb
  unfold Oct.getTable
  dsimp only
  have HC := Lib.hid (getVal_any h0)
  obtain ⟨s1, hs1⟩ : ∃ s1, (Oct.getVal b s).1 = s1 := ⟨_, rfl⟩
  obtain ⟨t, ht⟩ : ∃ n, (Oct.getVal b s).2 = n := ⟨_, rfl⟩
  rw [hs1, ht] at HC ⊢
  clear hs1 ht
  obtain ⟨s1', hs1'⟩ : ∃ s1', Oct.must s1 (Ty.ref t) 12 = s1' := ⟨_, rfl⟩
  rw [hs1']
  have HN := Lib.hid (fun (w : World) (hw : RdrAt w B p v b s1') => getLim_any hw)
  have HR := Lib.hid (fun w => ref_any t w)
  obtain ⟨y, hy⟩ : ∃ y, Oct.getLim b s1' = y := ⟨_, rfl⟩
  rw [hy] at HN ⊢
  clear hy
  obtain ⟨s2, ⟨mn, mx, has⟩⟩ := y
  dsimp only
  have HF : (s1.err = 0 ∧ Ty.ref t = true ∧ s1' = s1) ∨ (s1.err = 0 ∧ Ty.ref t = false ∧ s1' = s1.fail 12) ∨ (¬ s1.err = 0 ∧ s1' = s1) := by
    by_cases h1 : s1.err = 0
    · rcases h2 : Ty.ref t with _ | _
      · exact .inr (.inl ⟨h1, rfl, by rw [← hs1', h2, must_yes h1]⟩)
      · exact .inl ⟨h1, rfl, by rw [← hs1', h2, must_no (by simp)]⟩
    · exact .inr (.inr ⟨h1, by rw [← hs1', must_no (fun hh => h1 hh.1)]⟩)
  clear hs1'
  rcases HF with ⟨h1, h2, hs⟩ | ⟨h1, h2, hs⟩ | ⟨h1, hs⟩
  · have g2 : (s1.err == 0) = true := by simpa using h1
    have HS1 : Hid (s1 = s1') := hs.symm
    rw [h2] at HR
    clear hs h1 h2
    by_cases h3 : s2.err = 0
    · have k2 : (s2.err != 0) = false := by simpa using h3
      rw [if_pos h3]
      clear h3
      go_enter Try.func28, Try.ntmps28
      go_wp2_with fail
      refine (HC.out).mono ?_
      rintro e w1 ⟨rfl, st1⟩
      have bA := bx.step st1
      replace st1 := st0.trans st1
      go_wp2_with fail
      refine (err_any st1.1).mono ?_
      rintro e wq ⟨rfl, rfl⟩
      go_wp2_with fail
      refine (HR.out _).mono ?_
      rintro e wq ⟨rfl, rfl⟩
      rw [HS1.out] at st1
      go_wp2_with fail
      refine (HN.out _ st1.1).mono ?_
      rintro e w3 ⟨rfl, st3⟩
      dsimp only at st3
      replace bA := bA.step st3
      replace st1 := st1.trans st3
      clear st3
      have hKK := lt_of_heap bA.blk
      have hbl : Below w3.heap.size w3 (w3.alloc (.cells #[.int .i64 mn, .int .i64 mx, .bool has] 52)) := (Below.refl _ _).alloc (Nat.le_refl _) _
      have bl := Bxr.new w3 #[.int .i64 mn, .int .i64 mx, .bool has] 52 (st1.1.not_ft (Nat.le_refl _))
      replace bA := bA.below hbl
      replace st1 := st1.more hbl
      clear hbl
      go_wp2_with fail
      generalize w3.alloc (.cells #[.int .i64 mn, .int .i64 mx, .bool has] 52) = w4 at st1 bl bA ⊢
      refine (err_any st1.1).mono ?_
      rintro e wq ⟨rfl, rfl⟩
      have qA := bA.cells
      have fA := bA.froz
      have qL := bl.cells
      go_wp2
      refine bodyPost_ret (v := .agg #[.int .i64 t, .int .i64 mn, .int .i64 mx, .bool has]) (by simp [results, Try.results28, go_sem, qA]) rfl ?_
      exact ⟨rfl, (((st1.set h (Nat.le_refl _) _ _).set h (Nat.le_refl _) _ _).set h (Nat.le_refl _) _ _).set h (Nat.le_refl _) _ _⟩
    · have k2 : (s2.err != 0) = true := by simpa using h3
      rw [if_neg h3]
      clear h3
      go_enter Try.func28, Try.ntmps28
      go_wp2_with fail
      refine (HC.out).mono ?_
      rintro e w1 ⟨rfl, st1⟩
      have bA := bx.step st1
      replace st1 := st0.trans st1
      go_wp2_with fail
      refine (err_any st1.1).mono ?_
      rintro e wq ⟨rfl, rfl⟩
      go_wp2_with fail
      refine (HR.out _).mono ?_
      rintro e wq ⟨rfl, rfl⟩
      rw [HS1.out] at st1
      go_wp2_with fail
      refine (HN.out _ st1.1).mono ?_
      rintro e w3 ⟨rfl, st3⟩
      dsimp only at st3
      replace bA := bA.step st3
      replace st1 := st1.trans st3
      clear st3
      have hKK := lt_of_heap bA.blk
      have hbl : Below w3.heap.size w3 (w3.alloc (.cells #[.int .i64 mn, .int .i64 mx, .bool has] 52)) := (Below.refl _ _).alloc (Nat.le_refl _) _
      have bl := Bxr.new w3 #[.int .i64 mn, .int .i64 mx, .bool has] 52 (st1.1.not_ft (Nat.le_refl _))
      replace bA := bA.below hbl
      replace st1 := st1.more hbl
      clear hbl
      go_wp2_with fail
      generalize w3.alloc (.cells #[.int .i64 mn, .int .i64 mx, .bool has] 52) = w4 at st1 bl bA ⊢
      refine (err_any st1.1).mono ?_
      rintro e wq ⟨rfl, rfl⟩
      have qA := bA.cells
      have fA := bA.froz
      have qL := bl.cells
      go_wp2
      refine bodyPost_ret (v := .agg #[.int .i64 0, .int .i64 0, .int .i64 0, .bool false]) (by simp [results, Try.results28, go_sem, qA]) rfl ?_
      exact ⟨rfl, (((st1.set h (Nat.le_refl _) _ _).set h (Nat.le_refl _) _ _).set h (Nat.le_refl _) _ _).set h (Nat.le_refl _) _ _⟩
  · have g2 : (s1.err == 0) = true := by simpa using h1
    have HS1 : Hid (s1.fail 12 = s1') := hs.symm
    rw [h2] at HR
    clear hs h1 h2
    by_cases h3 : s2.err = 0
    · have k2 : (s2.err != 0) = false := by simpa using h3
      rw [if_pos h3]
      clear h3
      go_enter Try.func28, Try.ntmps28
      go_wp2_with fail
      refine (HC.out).mono ?_
      rintro e w1 ⟨rfl, st1⟩
      have bA := bx.step st1
      replace st1 := st0.trans st1
      go_wp2_with fail
      refine (err_any st1.1).mono ?_
      rintro e wq ⟨rfl, rfl⟩
      go_wp2_with fail
      refine (HR.out _).mono ?_
      rintro e wq ⟨rfl, rfl⟩
      go_wp2_with fail
      refine (fail_any st1.1 12).mono ?_
      rintro e w2 ⟨rfl, st2⟩
      replace bA := bA.step st2
      replace st1 := st1.trans st2
      clear st2
      rw [HS1.out] at st1
      go_wp2_with fail
      refine (HN.out _ st1.1).mono ?_
      rintro e w3 ⟨rfl, st3⟩
      dsimp only at st3
      replace bA := bA.step st3
      replace st1 := st1.trans st3
      clear st3
      have hKK := lt_of_heap bA.blk
      have hbl : Below w3.heap.size w3 (w3.alloc (.cells #[.int .i64 mn, .int .i64 mx, .bool has] 52)) := (Below.refl _ _).alloc (Nat.le_refl _) _
      have bl := Bxr.new w3 #[.int .i64 mn, .int .i64 mx, .bool has] 52 (st1.1.not_ft (Nat.le_refl _))
      replace bA := bA.below hbl
      replace st1 := st1.more hbl
      clear hbl
      go_wp2_with fail
      generalize w3.alloc (.cells #[.int .i64 mn, .int .i64 mx, .bool has] 52) = w4 at st1 bl bA ⊢
      refine (err_any st1.1).mono ?_
      rintro e wq ⟨rfl, rfl⟩
      have qA := bA.cells
      have fA := bA.froz
      have qL := bl.cells
      go_wp2
      refine bodyPost_ret (v := .agg #[.int .i64 t, .int .i64 mn, .int .i64 mx, .bool has]) (by simp [results, Try.results28, go_sem, qA]) rfl ?_
      exact ⟨rfl, (((st1.set h (Nat.le_refl _) _ _).set h (Nat.le_refl _) _ _).set h (Nat.le_refl _) _ _).set h (Nat.le_refl _) _ _⟩
    · have k2 : (s2.err != 0) = true := by simpa using h3
      rw [if_neg h3]
      clear h3
      go_enter Try.func28, Try.ntmps28
      go_wp2_with fail
      refine (HC.out).mono ?_
      rintro e w1 ⟨rfl, st1⟩
      have bA := bx.step st1
      replace st1 := st0.trans st1
      go_wp2_with fail
      refine (err_any st1.1).mono ?_
      rintro e wq ⟨rfl, rfl⟩
      go_wp2_with fail
      refine (HR.out _).mono ?_
      rintro e wq ⟨rfl, rfl⟩
      go_wp2_with fail
      refine (fail_any st1.1 12).mono ?_
      rintro e w2 ⟨rfl, st2⟩
      replace bA := bA.step st2
      replace st1 := st1.trans st2
      clear st2
      rw [HS1.out] at st1
      go_wp2_with fail
      refine (HN.out _ st1.1).mono ?_
      rintro e w3 ⟨rfl, st3⟩
      dsimp only at st3
      replace bA := bA.step st3
      replace st1 := st1.trans st3
      clear st3
      have hKK := lt_of_heap bA.blk
      have hbl : Below w3.heap.size w3 (w3.alloc (.cells #[.int .i64 mn, .int .i64 mx, .bool has] 52)) := (Below.refl _ _).alloc (Nat.le_refl _) _
      have bl := Bxr.new w3 #[.int .i64 mn, .int .i64 mx, .bool has] 52 (st1.1.not_ft (Nat.le_refl _))
      replace bA := bA.below hbl
      replace st1 := st1.more hbl
      clear hbl
      go_wp2_with fail
      generalize w3.alloc (.cells #[.int .i64 mn, .int .i64 mx, .bool has] 52) = w4 at st1 bl bA ⊢
      refine (err_any st1.1).mono ?_
      rintro e wq ⟨rfl, rfl⟩
      have qA := bA.cells
      have fA := bA.froz
      have qL := bl.cells
      go_wp2
      refine bodyPost_ret (v := .agg #[.int .i64 0, .int .i64 0, .int .i64 0, .bool false]) (by simp [results, Try.results28, go_sem, qA]) rfl ?_
      exact ⟨rfl, (((st1.set h (Nat.le_refl _) _ _).set h (Nat.le_refl _) _ _).set h (Nat.le_refl _) _ _).set h (Nat.le_refl _) _ _⟩
  · have g2 : (s1.err == 0) = false := by simpa using h1
    have HS1 : Hid (s1 = s1') := hs.symm
    clear hs h1
    by_cases h3 : s2.err = 0
    · have k2 : (s2.err != 0) = false := by simpa using h3
      rw [if_pos h3]
      clear h3
      go_enter Try.func28, Try.ntmps28
      go_wp2_with fail
      refine (HC.out).mono ?_
      rintro e w1 ⟨rfl, st1⟩
      have bA := bx.step st1
      replace st1 := st0.trans st1
      go_wp2_with fail
      refine (err_any st1.1).mono ?_
      rintro e wq ⟨rfl, rfl⟩
      rw [HS1.out] at st1
      go_wp2_with fail
      refine (HN.out _ st1.1).mono ?_
      rintro e w3 ⟨rfl, st3⟩
      dsimp only at st3
      replace bA := bA.step st3
      replace st1 := st1.trans st3
      clear st3
      have hKK := lt_of_heap bA.blk
      have hbl : Below w3.heap.size w3 (w3.alloc (.cells #[.int .i64 mn, .int .i64 mx, .bool has] 52)) := (Below.refl _ _).alloc (Nat.le_refl _) _
      have bl := Bxr.new w3 #[.int .i64 mn, .int .i64 mx, .bool has] 52 (st1.1.not_ft (Nat.le_refl _))
      replace bA := bA.below hbl
      replace st1 := st1.more hbl
      clear hbl
      go_wp2_with fail
      generalize w3.alloc (.cells #[.int .i64 mn, .int .i64 mx, .bool has] 52) = w4 at st1 bl bA ⊢
      refine (err_any st1.1).mono ?_
      rintro e wq ⟨rfl, rfl⟩
      have qA := bA.cells
      have fA := bA.froz
      have qL := bl.cells
      go_wp2
      refine bodyPost_ret (v := .agg #[.int .i64 t, .int .i64 mn, .int .i64 mx, .bool has]) (by simp [results, Try.results28, go_sem, qA]) rfl ?_
      exact ⟨rfl, (((st1.set h (Nat.le_refl _) _ _).set h (Nat.le_refl _) _ _).set h (Nat.le_refl _) _ _).set h (Nat.le_refl _) _ _⟩
    · have k2 : (s2.err != 0) = true := by simpa using h3
      rw [if_neg h3]
      clear h3
      go_enter Try.func28, Try.ntmps28
      go_wp2_with fail
      refine (HC.out).mono ?_
      rintro e w1 ⟨rfl, st1⟩
      have bA := bx.step st1
      replace st1 := st0.trans st1
      go_wp2_with fail
      refine (err_any st1.1).mono ?_
      rintro e wq ⟨rfl, rfl⟩
      rw [HS1.out] at st1
      go_wp2_with fail
      refine (HN.out _ st1.1).mono ?_
      rintro e w3 ⟨rfl, st3⟩
      dsimp only at st3
      replace bA := bA.step st3
      replace st1 := st1.trans st3
      clear st3
      have hKK := lt_of_heap bA.blk
      have hbl : Below w3.heap.size w3 (w3.alloc (.cells #[.int .i64 mn, .int .i64 mx, .bool has] 52)) := (Below.refl _ _).alloc (Nat.le_refl _) _
      have bl := Bxr.new w3 #[.int .i64 mn, .int .i64 mx, .bool has] 52 (st1.1.not_ft (Nat.le_refl _))
      replace bA := bA.below hbl
      replace st1 := st1.more hbl
      clear hbl
      go_wp2_with fail
      generalize w3.alloc (.cells #[.int .i64 mn, .int .i64 mx, .bool has] 52) = w4 at st1 bl bA ⊢
      refine (err_any st1.1).mono ?_
      rintro e wq ⟨rfl, rfl⟩
      have qA := bA.cells
      have fA := bA.froz
      have qL := bl.cells
      go_wp2
      refine bodyPost_ret (v := .agg #[.int .i64 0, .int .i64 0, .int .i64 0, .bool false]) (by simp [results, Try.results28, go_sem, qA]) rfl ?_
      exact ⟨rfl, (((st1.set h (Nat.le_refl _) _ _).set h (Nat.le_refl _) _ _).set h (Nat.le_refl _) _ _).set h (Nat.le_refl _) _ _⟩
end Go.Proofs.Ytagcildoebicnaa
