/-
  The reads of layer 10: limits.
-/
import Derived.Test.YtagcildoebicnaaBtGet
set_option linter.unusedVariables false
namespace Go.Proofs.Ytagcildoebicnaa
open Go.RowKit

def LimRet (W : World) (B : Nat) (p v : Value) (b : List UInt8) (x : Oct.St × Oct.Lim) (e : Ending) (w' : World) : Prop :=
  e = .returned (.agg #[.int .i64 x.2.mn, .int .i64 x.2.mx, .bool x.2.has]) ∧ RStep W B p v b x.1 w'
set_option maxHeartbeats 8000000 in
set_option maxRecDepth 100000 in
theorem getLim_any {W : World} {B : Nat} {p v : Value} {b : List UInt8} {s : Oct.St} (h : RdrAt W B p v b s) :
    Calls Try.prog 27 #[p] W (LimRet W B p v b (Oct.getLim b s)) := by
  have hmf : ∀ (fn : Fn) (first cap : Array Value) (w : World), (Instr.makeFunc fn first cap).run Try.prog w = .ok (.func fn first cap) w := fun _ _ _ _ => rfl
  have hb : Below W.heap.size W (W.alloc (.cells #[.int .i64 0, .int .i64 0, .bool false] 52)) := (Below.refl _ _).alloc (Nat.le_refl _) _
  have bx := Bxr.new W #[.int .i64 0, .int .i64 0, .bool false] 52 (h.not_ft (Nat.le_refl _))
  have h0 := h.below hb
  have st0 := RStep.below h hb
  unfold Oct.getLim
  dsimp only
  have HC := Lib.hid (rdByte_any h0)
  obtain ⟨s1, hs1⟩ : ∃ s1, (Oct.byte b s).1 = s1 := ⟨_, rfl⟩
  obtain ⟨x, hx⟩ : ∃ n, (Oct.byte b s).2 = n := ⟨_, rfl⟩
  rw [hs1, hx] at HC ⊢
  clear hs1 hx
  obtain ⟨s1', hs1'⟩ : ∃ s1', Oct.must s1 (decide (x ≤ 1)) 4 = s1' := ⟨_, rfl⟩
  rw [hs1']
  have HN := Lib.hid (fun (w : World) (hw : RdrAt w B p v b s1') => rdU32_any hw)
  obtain ⟨s2, hs2⟩ : ∃ s2, (Oct.u32 b s1').1 = s2 := ⟨_, rfl⟩
  obtain ⟨n, hn⟩ : ∃ n, (Oct.u32 b s1').2 = n := ⟨_, rfl⟩
  rw [hs2, hn] at HN ⊢
  clear hs2 hn
  have HM := Lib.hid (fun (w : World) (hw : RdrAt w B p v b s2) => rdU32_any hw)
  obtain ⟨s3, hs3⟩ : ∃ s3, (Oct.u32 b s2).1 = s3 := ⟨_, rfl⟩
  obtain ⟨m, hm⟩ : ∃ m, (Oct.u32 b s2).2 = m := ⟨_, rfl⟩
  rw [hs3, hm] at HM ⊢
  clear hs3 hm
  have HF : (s1.err = 0 ∧ x ≤ 1 ∧ s1' = s1) ∨ (s1.err = 0 ∧ 1 < x ∧ s1' = s1.fail 4) ∨ (¬ s1.err = 0 ∧ s1' = s1) := by
    by_cases h1 : s1.err = 0
    · by_cases h2 : x ≤ 1
      · exact .inl ⟨h1, h2, by rw [← hs1', must_no (by simp [h2])]⟩
      · refine .inr (.inl ⟨h1, by omega, ?_⟩)
        have hx2 : decide (x ≤ 1) = false := by simp; omega
        rw [← hs1', hx2, must_yes h1]
    · exact .inr (.inr ⟨h1, by rw [← hs1', must_no (fun hh => h1 hh.1)]⟩)
  clear hs1'
  rcases HF with ⟨h1, h2, hs⟩ | ⟨h1, h2, hs⟩ | ⟨h1, hs⟩
  · have g2 : (s1.err == 0) = true := by simpa using h1
    have g3 : decide (1 < x) = false := by simp; omega
    have HS1 : Hid (s1 = s1') := hs.symm
    clear hs h1
    clear h2
    by_cases hx1 : x = 1
    · rw [if_pos hx1]
      have g5 : (x == 1) = true := by simpa using hx1
      clear hx1
      by_cases h3 : s3.err = 0
      · have k1 : (s3.err == 0) = true := by simpa using h3
        have k2 : (s3.err != 0) = false := by simpa using h3
        by_cases hnm : n ≤ m
        · have k3 : decide (m < n) = false := by simp; omega
          rw [must_no (by simp [hnm]), if_pos h3]
          clear h3 hnm
          go_enter Try.func27, Try.ntmps27
          go_wp2_with fail
          refine (HC.out).mono ?_
          rintro e w1 ⟨rfl, st1⟩
          have bA := bx.step st1
          replace st1 := st0.trans st1
          go_wp2_with fail
          refine (err_any st1.1).mono ?_
          rintro e wq ⟨rfl, rfl⟩
          rw [HS1.out] at st1
          go_wp2_with fail
          refine (HN.out _ st1.1).mono ?_
          rintro e w3 ⟨rfl, st3⟩
          replace bA := bA.step st3
          replace st1 := st1.trans st3
          clear st3
          have hKK := lt_of_heap bA.blk
          have hbl : Below w3.heap.size w3 (w3.alloc (.cells #[.int .i64 n, .int .i64 0, .bool true] 52)) := (Below.refl _ _).alloc (Nat.le_refl _) _
          have bl := Bxr.new w3 #[.int .i64 n, .int .i64 0, .bool true] 52 (st1.1.not_ft (Nat.le_refl _))
          replace bA := bA.below hbl
          replace st1 := st1.more hbl
          go_wp2_with fail
          refine (HM.out _ st1.1).mono ?_
          rintro e w4 ⟨rfl, st4⟩
          replace bA := bA.step st4
          replace bl := bl.step st4
          have st5 := (st1.trans st4).set h (K := w3.heap.size) (by omega) 1 (.int .i64 m)
          have hl5 := Go.heap_setCell_same w4 w3.heap.size 1 _ _ (.int .i64 m) bl.blk
          have bl5 : Bxr (w4.setCell ⟨w3.heap.size, 1, none⟩ (.int .i64 m)) w3.heap.size #[.int .i64 n, .int .i64 m, .bool true] 52 p v := ⟨hl5, bl.out⟩
          have bA5 : Bxr (w4.setCell ⟨w3.heap.size, 1, none⟩ (.int .i64 m)) W.heap.size #[.int .i64 0, .int .i64 0, .bool false] 52 p v := ⟨(Below.heap_setCell _ _ _ _ (by dsimp only; omega)).trans bA.blk, bA.out⟩
          have q4 := bl.cells
          have f4 := bl.froz
          clear bl bA st1 st4 hl5 hbl
          go_wp2_with fail
          refine (err_any st5.1).mono ?_
          rintro e wq ⟨rfl, rfl⟩
          have q5 := bl5.cells
          have f5 := bl5.froz
          go_wp2_with fail
          refine (err_any st5.1).mono ?_
          rintro e wq ⟨rfl, rfl⟩
          have qA := bA5.cells
          have fA := bA5.froz
          have qL := bl5.cells
          go_wp2
          refine bodyPost_ret (v := .agg #[.int .i64 n, .int .i64 m, .bool true]) (by simp [results, Try.results27, go_sem, qA]) rfl ?_
          exact ⟨rfl, ((st5.set h (Nat.le_refl _) _ _).set h (Nat.le_refl _) _ _).set h (Nat.le_refl _) _ _⟩
        · have k3 : decide (m < n) = true := by simp; omega
          have k4 : ((s3.fail 20).err != 0) = true := by rw [fail_err h3]; decide
          have hnm2 : decide (n ≤ m) = false := by simp; omega
          rw [hnm2, must_yes h3, if_neg (by rw [fail_err h3]; decide)]
          clear h3 hnm hnm2 k2
          go_enter Try.func27, Try.ntmps27
          go_wp2_with fail
          refine (HC.out).mono ?_
          rintro e w1 ⟨rfl, st1⟩
          have bA := bx.step st1
          replace st1 := st0.trans st1
          go_wp2_with fail
          refine (err_any st1.1).mono ?_
          rintro e wq ⟨rfl, rfl⟩
          rw [HS1.out] at st1
          go_wp2_with fail
          refine (HN.out _ st1.1).mono ?_
          rintro e w3 ⟨rfl, st3⟩
          replace bA := bA.step st3
          replace st1 := st1.trans st3
          clear st3
          have hKK := lt_of_heap bA.blk
          have hbl : Below w3.heap.size w3 (w3.alloc (.cells #[.int .i64 n, .int .i64 0, .bool true] 52)) := (Below.refl _ _).alloc (Nat.le_refl _) _
          have bl := Bxr.new w3 #[.int .i64 n, .int .i64 0, .bool true] 52 (st1.1.not_ft (Nat.le_refl _))
          replace bA := bA.below hbl
          replace st1 := st1.more hbl
          go_wp2_with fail
          refine (HM.out _ st1.1).mono ?_
          rintro e w4 ⟨rfl, st4⟩
          replace bA := bA.step st4
          replace bl := bl.step st4
          have st5 := (st1.trans st4).set h (K := w3.heap.size) (by omega) 1 (.int .i64 m)
          have hl5 := Go.heap_setCell_same w4 w3.heap.size 1 _ _ (.int .i64 m) bl.blk
          have bl5 : Bxr (w4.setCell ⟨w3.heap.size, 1, none⟩ (.int .i64 m)) w3.heap.size #[.int .i64 n, .int .i64 m, .bool true] 52 p v := ⟨hl5, bl.out⟩
          have bA5 : Bxr (w4.setCell ⟨w3.heap.size, 1, none⟩ (.int .i64 m)) W.heap.size #[.int .i64 0, .int .i64 0, .bool false] 52 p v := ⟨(Below.heap_setCell _ _ _ _ (by dsimp only; omega)).trans bA.blk, bA.out⟩
          have q4 := bl.cells
          have f4 := bl.froz
          clear bl bA st1 st4 hl5 hbl
          go_wp2_with fail
          refine (err_any st5.1).mono ?_
          rintro e wq ⟨rfl, rfl⟩
          have q5 := bl5.cells
          have f5 := bl5.froz
          go_wp2_with fail
          refine (fail_any st5.1 20).mono ?_
          rintro e w6 ⟨rfl, st6⟩
          replace bA5 := bA5.step st6
          replace bl5 := bl5.step st6
          replace st5 := st5.trans st6
          clear q5 f5 st6
          go_wp2_with fail
          refine (err_any st5.1).mono ?_
          rintro e wq ⟨rfl, rfl⟩
          have qA := bA5.cells
          have fA := bA5.froz
          have qL := bl5.cells
          go_wp2
          refine bodyPost_ret (v := .agg #[.int .i64 0, .int .i64 0, .bool false]) (by simp [results, Try.results27, go_sem, qA]) rfl ?_
          exact ⟨rfl, ((st5.set h (Nat.le_refl _) _ _).set h (Nat.le_refl _) _ _).set h (Nat.le_refl _) _ _⟩
      · have k1 : (s3.err == 0) = false := by simpa using h3
        have k2 : (s3.err != 0) = true := by simpa using h3
        rw [must_no (fun hh => h3 hh.1), if_neg h3]
        clear h3
        go_enter Try.func27, Try.ntmps27
        go_wp2_with fail
        refine (HC.out).mono ?_
        rintro e w1 ⟨rfl, st1⟩
        have bA := bx.step st1
        replace st1 := st0.trans st1
        go_wp2_with fail
        refine (err_any st1.1).mono ?_
        rintro e wq ⟨rfl, rfl⟩
        rw [HS1.out] at st1
        go_wp2_with fail
        refine (HN.out _ st1.1).mono ?_
        rintro e w3 ⟨rfl, st3⟩
        replace bA := bA.step st3
        replace st1 := st1.trans st3
        clear st3
        have hKK := lt_of_heap bA.blk
        have hbl : Below w3.heap.size w3 (w3.alloc (.cells #[.int .i64 n, .int .i64 0, .bool true] 52)) := (Below.refl _ _).alloc (Nat.le_refl _) _
        have bl := Bxr.new w3 #[.int .i64 n, .int .i64 0, .bool true] 52 (st1.1.not_ft (Nat.le_refl _))
        replace bA := bA.below hbl
        replace st1 := st1.more hbl
        go_wp2_with fail
        refine (HM.out _ st1.1).mono ?_
        rintro e w4 ⟨rfl, st4⟩
        replace bA := bA.step st4
        replace bl := bl.step st4
        have st5 := (st1.trans st4).set h (K := w3.heap.size) (by omega) 1 (.int .i64 m)
        have hl5 := Go.heap_setCell_same w4 w3.heap.size 1 _ _ (.int .i64 m) bl.blk
        have bl5 : Bxr (w4.setCell ⟨w3.heap.size, 1, none⟩ (.int .i64 m)) w3.heap.size #[.int .i64 n, .int .i64 m, .bool true] 52 p v := ⟨hl5, bl.out⟩
        have bA5 : Bxr (w4.setCell ⟨w3.heap.size, 1, none⟩ (.int .i64 m)) W.heap.size #[.int .i64 0, .int .i64 0, .bool false] 52 p v := ⟨(Below.heap_setCell _ _ _ _ (by dsimp only; omega)).trans bA.blk, bA.out⟩
        have q4 := bl.cells
        have f4 := bl.froz
        clear bl bA st1 st4 hl5 hbl
        go_wp2_with fail
        refine (err_any st5.1).mono ?_
        rintro e wq ⟨rfl, rfl⟩
        have q5 := bl5.cells
        have f5 := bl5.froz
        go_wp2_with fail
        refine (err_any st5.1).mono ?_
        rintro e wq ⟨rfl, rfl⟩
        have qA := bA5.cells
        have fA := bA5.froz
        have qL := bl5.cells
        go_wp2
        refine bodyPost_ret (v := .agg #[.int .i64 0, .int .i64 0, .bool false]) (by simp [results, Try.results27, go_sem, qA]) rfl ?_
        exact ⟨rfl, ((st5.set h (Nat.le_refl _) _ _).set h (Nat.le_refl _) _ _).set h (Nat.le_refl _) _ _⟩
    · rw [if_neg hx1]
      have g5 : (x == 1) = false := by simpa using hx1
      clear hx1
      by_cases h3 : s2.err = 0
      · have k1 : (s2.err == 0) = true := by simpa using h3
        have k2 : (s2.err != 0) = false := by simpa using h3
        rw [if_pos h3]
        clear h3
        go_enter Try.func27, Try.ntmps27
        go_wp2_with fail
        refine (HC.out).mono ?_
        rintro e w1 ⟨rfl, st1⟩
        have bA := bx.step st1
        replace st1 := st0.trans st1
        go_wp2_with fail
        refine (err_any st1.1).mono ?_
        rintro e wq ⟨rfl, rfl⟩
        rw [HS1.out] at st1
        go_wp2_with fail
        refine (HN.out _ st1.1).mono ?_
        rintro e w3 ⟨rfl, st3⟩
        replace bA := bA.step st3
        replace st1 := st1.trans st3
        clear st3
        have hKK := lt_of_heap bA.blk
        have hbl : Below w3.heap.size w3 (w3.alloc (.cells #[.int .i64 n, .int .i64 0, .bool false] 52)) := (Below.refl _ _).alloc (Nat.le_refl _) _
        have bl := Bxr.new w3 #[.int .i64 n, .int .i64 0, .bool false] 52 (st1.1.not_ft (Nat.le_refl _))
        replace bA := bA.below hbl
        replace st1 := st1.more hbl
        have st5 := st1
        have bl5 := bl
        have bA5 := bA
        clear bl bA st1 hbl
        go_wp2_with fail
        generalize w3.alloc (.cells #[.int .i64 n, .int .i64 0, .bool false] 52) = w4 at st5 bl5 bA5 ⊢
        go_wp2_with fail
        refine (err_any st5.1).mono ?_
        rintro e wq ⟨rfl, rfl⟩
        have q5 := bl5.cells
        have f5 := bl5.froz
        go_wp2_with fail
        refine (err_any st5.1).mono ?_
        rintro e wq ⟨rfl, rfl⟩
        have qA := bA5.cells
        have fA := bA5.froz
        have qL := bl5.cells
        go_wp2
        refine bodyPost_ret (v := .agg #[.int .i64 n, .int .i64 0, .bool false]) (by simp [results, Try.results27, go_sem, qA]) rfl ?_
        exact ⟨rfl, ((st5.set h (Nat.le_refl _) _ _).set h (Nat.le_refl _) _ _).set h (Nat.le_refl _) _ _⟩
      · have k1 : (s2.err == 0) = false := by simpa using h3
        have k2 : (s2.err != 0) = true := by simpa using h3
        rw [if_neg h3]
        clear h3
        go_enter Try.func27, Try.ntmps27
        go_wp2_with fail
        refine (HC.out).mono ?_
        rintro e w1 ⟨rfl, st1⟩
        have bA := bx.step st1
        replace st1 := st0.trans st1
        go_wp2_with fail
        refine (err_any st1.1).mono ?_
        rintro e wq ⟨rfl, rfl⟩
        rw [HS1.out] at st1
        go_wp2_with fail
        refine (HN.out _ st1.1).mono ?_
        rintro e w3 ⟨rfl, st3⟩
        replace bA := bA.step st3
        replace st1 := st1.trans st3
        clear st3
        have hKK := lt_of_heap bA.blk
        have hbl : Below w3.heap.size w3 (w3.alloc (.cells #[.int .i64 n, .int .i64 0, .bool false] 52)) := (Below.refl _ _).alloc (Nat.le_refl _) _
        have bl := Bxr.new w3 #[.int .i64 n, .int .i64 0, .bool false] 52 (st1.1.not_ft (Nat.le_refl _))
        replace bA := bA.below hbl
        replace st1 := st1.more hbl
        have st5 := st1
        have bl5 := bl
        have bA5 := bA
        clear bl bA st1 hbl
        go_wp2_with fail
        generalize w3.alloc (.cells #[.int .i64 n, .int .i64 0, .bool false] 52) = w4 at st5 bl5 bA5 ⊢
        go_wp2_with fail
        refine (err_any st5.1).mono ?_
        rintro e wq ⟨rfl, rfl⟩
        have q5 := bl5.cells
        have f5 := bl5.froz
        go_wp2_with fail
        refine (err_any st5.1).mono ?_
        rintro e wq ⟨rfl, rfl⟩
        have qA := bA5.cells
        have fA := bA5.froz
        have qL := bl5.cells
        go_wp2
        refine bodyPost_ret (v := .agg #[.int .i64 0, .int .i64 0, .bool false]) (by simp [results, Try.results27, go_sem, qA]) rfl ?_
        exact ⟨rfl, ((st5.set h (Nat.le_refl _) _ _).set h (Nat.le_refl _) _ _).set h (Nat.le_refl _) _ _⟩
  · have g2 : (s1.err == 0) = true := by simpa using h1
    have g3 : decide (1 < x) = true := by simp; omega
    have HS1 : Hid (s1.fail 4 = s1') := hs.symm
    clear hs h1
    have g5 : (x == 1) = false := by simp; omega
    rw [if_neg (show ¬ x = 1 by omega)]
    clear h2
    by_cases h3 : s2.err = 0
    · have k1 : (s2.err == 0) = true := by simpa using h3
      have k2 : (s2.err != 0) = false := by simpa using h3
      rw [if_pos h3]
      clear h3
      go_enter Try.func27, Try.ntmps27
      go_wp2_with fail
      refine (HC.out).mono ?_
      rintro e w1 ⟨rfl, st1⟩
      have bA := bx.step st1
      replace st1 := st0.trans st1
      go_wp2_with fail
      refine (err_any st1.1).mono ?_
      rintro e wq ⟨rfl, rfl⟩
      go_wp2_with fail
      refine (fail_any st1.1 4).mono ?_
      rintro e w2 ⟨rfl, st2⟩
      replace bA := bA.step st2
      replace st1 := st1.trans st2
      clear st2
      rw [HS1.out] at st1
      go_wp2_with fail
      refine (HN.out _ st1.1).mono ?_
      rintro e w3 ⟨rfl, st3⟩
      replace bA := bA.step st3
      replace st1 := st1.trans st3
      clear st3
      have hKK := lt_of_heap bA.blk
      have hbl : Below w3.heap.size w3 (w3.alloc (.cells #[.int .i64 n, .int .i64 0, .bool false] 52)) := (Below.refl _ _).alloc (Nat.le_refl _) _
      have bl := Bxr.new w3 #[.int .i64 n, .int .i64 0, .bool false] 52 (st1.1.not_ft (Nat.le_refl _))
      replace bA := bA.below hbl
      replace st1 := st1.more hbl
      have st5 := st1
      have bl5 := bl
      have bA5 := bA
      clear bl bA st1 hbl
      go_wp2_with fail
      generalize w3.alloc (.cells #[.int .i64 n, .int .i64 0, .bool false] 52) = w4 at st5 bl5 bA5 ⊢
      go_wp2_with fail
      refine (err_any st5.1).mono ?_
      rintro e wq ⟨rfl, rfl⟩
      have q5 := bl5.cells
      have f5 := bl5.froz
      go_wp2_with fail
      refine (err_any st5.1).mono ?_
      rintro e wq ⟨rfl, rfl⟩
      have qA := bA5.cells
      have fA := bA5.froz
      have qL := bl5.cells
      go_wp2
      refine bodyPost_ret (v := .agg #[.int .i64 n, .int .i64 0, .bool false]) (by simp [results, Try.results27, go_sem, qA]) rfl ?_
      exact ⟨rfl, ((st5.set h (Nat.le_refl _) _ _).set h (Nat.le_refl _) _ _).set h (Nat.le_refl _) _ _⟩
    · have k1 : (s2.err == 0) = false := by simpa using h3
      have k2 : (s2.err != 0) = true := by simpa using h3
      rw [if_neg h3]
      clear h3
      go_enter Try.func27, Try.ntmps27
      go_wp2_with fail
      refine (HC.out).mono ?_
      rintro e w1 ⟨rfl, st1⟩
      have bA := bx.step st1
      replace st1 := st0.trans st1
      go_wp2_with fail
      refine (err_any st1.1).mono ?_
      rintro e wq ⟨rfl, rfl⟩
      go_wp2_with fail
      refine (fail_any st1.1 4).mono ?_
      rintro e w2 ⟨rfl, st2⟩
      replace bA := bA.step st2
      replace st1 := st1.trans st2
      clear st2
      rw [HS1.out] at st1
      go_wp2_with fail
      refine (HN.out _ st1.1).mono ?_
      rintro e w3 ⟨rfl, st3⟩
      replace bA := bA.step st3
      replace st1 := st1.trans st3
      clear st3
      have hKK := lt_of_heap bA.blk
      have hbl : Below w3.heap.size w3 (w3.alloc (.cells #[.int .i64 n, .int .i64 0, .bool false] 52)) := (Below.refl _ _).alloc (Nat.le_refl _) _
      have bl := Bxr.new w3 #[.int .i64 n, .int .i64 0, .bool false] 52 (st1.1.not_ft (Nat.le_refl _))
      replace bA := bA.below hbl
      replace st1 := st1.more hbl
      have st5 := st1
      have bl5 := bl
      have bA5 := bA
      clear bl bA st1 hbl
      go_wp2_with fail
      generalize w3.alloc (.cells #[.int .i64 n, .int .i64 0, .bool false] 52) = w4 at st5 bl5 bA5 ⊢
      go_wp2_with fail
      refine (err_any st5.1).mono ?_
      rintro e wq ⟨rfl, rfl⟩
      have q5 := bl5.cells
      have f5 := bl5.froz
      go_wp2_with fail
      refine (err_any st5.1).mono ?_
      rintro e wq ⟨rfl, rfl⟩
      have qA := bA5.cells
      have fA := bA5.froz
      have qL := bl5.cells
      go_wp2
      refine bodyPost_ret (v := .agg #[.int .i64 0, .int .i64 0, .bool false]) (by simp [results, Try.results27, go_sem, qA]) rfl ?_
      exact ⟨rfl, ((st5.set h (Nat.le_refl _) _ _).set h (Nat.le_refl _) _ _).set h (Nat.le_refl _) _ _⟩
  · have g2 : (s1.err == 0) = false := by simpa using h1
    have HS1 : Hid (s1 = s1') := hs.symm
    clear hs h1
    by_cases hx1 : x = 1
    · rw [if_pos hx1]
      have g5 : (x == 1) = true := by simpa using hx1
      clear hx1
      by_cases h3 : s3.err = 0
      · have k1 : (s3.err == 0) = true := by simpa using h3
        have k2 : (s3.err != 0) = false := by simpa using h3
        by_cases hnm : n ≤ m
        · have k3 : decide (m < n) = false := by simp; omega
          rw [must_no (by simp [hnm]), if_pos h3]
          clear h3 hnm
          go_enter Try.func27, Try.ntmps27
          go_wp2_with fail
          refine (HC.out).mono ?_
          rintro e w1 ⟨rfl, st1⟩
          have bA := bx.step st1
          replace st1 := st0.trans st1
          go_wp2_with fail
          refine (err_any st1.1).mono ?_
          rintro e wq ⟨rfl, rfl⟩
          rw [HS1.out] at st1
          go_wp2_with fail
          refine (HN.out _ st1.1).mono ?_
          rintro e w3 ⟨rfl, st3⟩
          replace bA := bA.step st3
          replace st1 := st1.trans st3
          clear st3
          have hKK := lt_of_heap bA.blk
          have hbl : Below w3.heap.size w3 (w3.alloc (.cells #[.int .i64 n, .int .i64 0, .bool true] 52)) := (Below.refl _ _).alloc (Nat.le_refl _) _
          have bl := Bxr.new w3 #[.int .i64 n, .int .i64 0, .bool true] 52 (st1.1.not_ft (Nat.le_refl _))
          replace bA := bA.below hbl
          replace st1 := st1.more hbl
          go_wp2_with fail
          refine (HM.out _ st1.1).mono ?_
          rintro e w4 ⟨rfl, st4⟩
          replace bA := bA.step st4
          replace bl := bl.step st4
          have st5 := (st1.trans st4).set h (K := w3.heap.size) (by omega) 1 (.int .i64 m)
          have hl5 := Go.heap_setCell_same w4 w3.heap.size 1 _ _ (.int .i64 m) bl.blk
          have bl5 : Bxr (w4.setCell ⟨w3.heap.size, 1, none⟩ (.int .i64 m)) w3.heap.size #[.int .i64 n, .int .i64 m, .bool true] 52 p v := ⟨hl5, bl.out⟩
          have bA5 : Bxr (w4.setCell ⟨w3.heap.size, 1, none⟩ (.int .i64 m)) W.heap.size #[.int .i64 0, .int .i64 0, .bool false] 52 p v := ⟨(Below.heap_setCell _ _ _ _ (by dsimp only; omega)).trans bA.blk, bA.out⟩
          have q4 := bl.cells
          have f4 := bl.froz
          clear bl bA st1 st4 hl5 hbl
          go_wp2_with fail
          refine (err_any st5.1).mono ?_
          rintro e wq ⟨rfl, rfl⟩
          have q5 := bl5.cells
          have f5 := bl5.froz
          go_wp2_with fail
          refine (err_any st5.1).mono ?_
          rintro e wq ⟨rfl, rfl⟩
          have qA := bA5.cells
          have fA := bA5.froz
          have qL := bl5.cells
          go_wp2
          refine bodyPost_ret (v := .agg #[.int .i64 n, .int .i64 m, .bool true]) (by simp [results, Try.results27, go_sem, qA]) rfl ?_
          exact ⟨rfl, ((st5.set h (Nat.le_refl _) _ _).set h (Nat.le_refl _) _ _).set h (Nat.le_refl _) _ _⟩
        · have k3 : decide (m < n) = true := by simp; omega
          have k4 : ((s3.fail 20).err != 0) = true := by rw [fail_err h3]; decide
          have hnm2 : decide (n ≤ m) = false := by simp; omega
          rw [hnm2, must_yes h3, if_neg (by rw [fail_err h3]; decide)]
          clear h3 hnm hnm2 k2
          go_enter Try.func27, Try.ntmps27
          go_wp2_with fail
          refine (HC.out).mono ?_
          rintro e w1 ⟨rfl, st1⟩
          have bA := bx.step st1
          replace st1 := st0.trans st1
          go_wp2_with fail
          refine (err_any st1.1).mono ?_
          rintro e wq ⟨rfl, rfl⟩
          rw [HS1.out] at st1
          go_wp2_with fail
          refine (HN.out _ st1.1).mono ?_
          rintro e w3 ⟨rfl, st3⟩
          replace bA := bA.step st3
          replace st1 := st1.trans st3
          clear st3
          have hKK := lt_of_heap bA.blk
          have hbl : Below w3.heap.size w3 (w3.alloc (.cells #[.int .i64 n, .int .i64 0, .bool true] 52)) := (Below.refl _ _).alloc (Nat.le_refl _) _
          have bl := Bxr.new w3 #[.int .i64 n, .int .i64 0, .bool true] 52 (st1.1.not_ft (Nat.le_refl _))
          replace bA := bA.below hbl
          replace st1 := st1.more hbl
          go_wp2_with fail
          refine (HM.out _ st1.1).mono ?_
          rintro e w4 ⟨rfl, st4⟩
          replace bA := bA.step st4
          replace bl := bl.step st4
          have st5 := (st1.trans st4).set h (K := w3.heap.size) (by omega) 1 (.int .i64 m)
          have hl5 := Go.heap_setCell_same w4 w3.heap.size 1 _ _ (.int .i64 m) bl.blk
          have bl5 : Bxr (w4.setCell ⟨w3.heap.size, 1, none⟩ (.int .i64 m)) w3.heap.size #[.int .i64 n, .int .i64 m, .bool true] 52 p v := ⟨hl5, bl.out⟩
          have bA5 : Bxr (w4.setCell ⟨w3.heap.size, 1, none⟩ (.int .i64 m)) W.heap.size #[.int .i64 0, .int .i64 0, .bool false] 52 p v := ⟨(Below.heap_setCell _ _ _ _ (by dsimp only; omega)).trans bA.blk, bA.out⟩
          have q4 := bl.cells
          have f4 := bl.froz
          clear bl bA st1 st4 hl5 hbl
          go_wp2_with fail
          refine (err_any st5.1).mono ?_
          rintro e wq ⟨rfl, rfl⟩
          have q5 := bl5.cells
          have f5 := bl5.froz
          go_wp2_with fail
          refine (fail_any st5.1 20).mono ?_
          rintro e w6 ⟨rfl, st6⟩
          replace bA5 := bA5.step st6
          replace bl5 := bl5.step st6
          replace st5 := st5.trans st6
          clear q5 f5 st6
          go_wp2_with fail
          refine (err_any st5.1).mono ?_
          rintro e wq ⟨rfl, rfl⟩
          have qA := bA5.cells
          have fA := bA5.froz
          have qL := bl5.cells
          go_wp2
          refine bodyPost_ret (v := .agg #[.int .i64 0, .int .i64 0, .bool false]) (by simp [results, Try.results27, go_sem, qA]) rfl ?_
          exact ⟨rfl, ((st5.set h (Nat.le_refl _) _ _).set h (Nat.le_refl _) _ _).set h (Nat.le_refl _) _ _⟩
      · have k1 : (s3.err == 0) = false := by simpa using h3
        have k2 : (s3.err != 0) = true := by simpa using h3
        rw [must_no (fun hh => h3 hh.1), if_neg h3]
        clear h3
        go_enter Try.func27, Try.ntmps27
        go_wp2_with fail
        refine (HC.out).mono ?_
        rintro e w1 ⟨rfl, st1⟩
        have bA := bx.step st1
        replace st1 := st0.trans st1
        go_wp2_with fail
        refine (err_any st1.1).mono ?_
        rintro e wq ⟨rfl, rfl⟩
        rw [HS1.out] at st1
        go_wp2_with fail
        refine (HN.out _ st1.1).mono ?_
        rintro e w3 ⟨rfl, st3⟩
        replace bA := bA.step st3
        replace st1 := st1.trans st3
        clear st3
        have hKK := lt_of_heap bA.blk
        have hbl : Below w3.heap.size w3 (w3.alloc (.cells #[.int .i64 n, .int .i64 0, .bool true] 52)) := (Below.refl _ _).alloc (Nat.le_refl _) _
        have bl := Bxr.new w3 #[.int .i64 n, .int .i64 0, .bool true] 52 (st1.1.not_ft (Nat.le_refl _))
        replace bA := bA.below hbl
        replace st1 := st1.more hbl
        go_wp2_with fail
        refine (HM.out _ st1.1).mono ?_
        rintro e w4 ⟨rfl, st4⟩
        replace bA := bA.step st4
        replace bl := bl.step st4
        have st5 := (st1.trans st4).set h (K := w3.heap.size) (by omega) 1 (.int .i64 m)
        have hl5 := Go.heap_setCell_same w4 w3.heap.size 1 _ _ (.int .i64 m) bl.blk
        have bl5 : Bxr (w4.setCell ⟨w3.heap.size, 1, none⟩ (.int .i64 m)) w3.heap.size #[.int .i64 n, .int .i64 m, .bool true] 52 p v := ⟨hl5, bl.out⟩
        have bA5 : Bxr (w4.setCell ⟨w3.heap.size, 1, none⟩ (.int .i64 m)) W.heap.size #[.int .i64 0, .int .i64 0, .bool false] 52 p v := ⟨(Below.heap_setCell _ _ _ _ (by dsimp only; omega)).trans bA.blk, bA.out⟩
        have q4 := bl.cells
        have f4 := bl.froz
        clear bl bA st1 st4 hl5 hbl
        go_wp2_with fail
        refine (err_any st5.1).mono ?_
        rintro e wq ⟨rfl, rfl⟩
        have q5 := bl5.cells
        have f5 := bl5.froz
        go_wp2_with fail
        refine (err_any st5.1).mono ?_
        rintro e wq ⟨rfl, rfl⟩
        have qA := bA5.cells
        have fA := bA5.froz
        have qL := bl5.cells
        go_wp2
        refine bodyPost_ret (v := .agg #[.int .i64 0, .int .i64 0, .bool false]) (by simp [results, Try.results27, go_sem, qA]) rfl ?_
        exact ⟨rfl, ((st5.set h (Nat.le_refl _) _ _).set h (Nat.le_refl _) _ _).set h (Nat.le_refl _) _ _⟩
    · rw [if_neg hx1]
      have g5 : (x == 1) = false := by simpa using hx1
      clear hx1
      by_cases h3 : s2.err = 0
      · have k1 : (s2.err == 0) = true := by simpa using h3
        have k2 : (s2.err != 0) = false := by simpa using h3
        rw [if_pos h3]
        clear h3
        go_enter Try.func27, Try.ntmps27
        go_wp2_with fail
        refine (HC.out).mono ?_
        rintro e w1 ⟨rfl, st1⟩
        have bA := bx.step st1
        replace st1 := st0.trans st1
        go_wp2_with fail
        refine (err_any st1.1).mono ?_
        rintro e wq ⟨rfl, rfl⟩
        rw [HS1.out] at st1
        go_wp2_with fail
        refine (HN.out _ st1.1).mono ?_
        rintro e w3 ⟨rfl, st3⟩
        replace bA := bA.step st3
        replace st1 := st1.trans st3
        clear st3
        have hKK := lt_of_heap bA.blk
        have hbl : Below w3.heap.size w3 (w3.alloc (.cells #[.int .i64 n, .int .i64 0, .bool false] 52)) := (Below.refl _ _).alloc (Nat.le_refl _) _
        have bl := Bxr.new w3 #[.int .i64 n, .int .i64 0, .bool false] 52 (st1.1.not_ft (Nat.le_refl _))
        replace bA := bA.below hbl
        replace st1 := st1.more hbl
        have st5 := st1
        have bl5 := bl
        have bA5 := bA
        clear bl bA st1 hbl
        go_wp2_with fail
        generalize w3.alloc (.cells #[.int .i64 n, .int .i64 0, .bool false] 52) = w4 at st5 bl5 bA5 ⊢
        go_wp2_with fail
        refine (err_any st5.1).mono ?_
        rintro e wq ⟨rfl, rfl⟩
        have q5 := bl5.cells
        have f5 := bl5.froz
        go_wp2_with fail
        refine (err_any st5.1).mono ?_
        rintro e wq ⟨rfl, rfl⟩
        have qA := bA5.cells
        have fA := bA5.froz
        have qL := bl5.cells
        go_wp2
        refine bodyPost_ret (v := .agg #[.int .i64 n, .int .i64 0, .bool false]) (by simp [results, Try.results27, go_sem, qA]) rfl ?_
        exact ⟨rfl, ((st5.set h (Nat.le_refl _) _ _).set h (Nat.le_refl _) _ _).set h (Nat.le_refl _) _ _⟩
      · have k1 : (s2.err == 0) = false := by simpa using h3
        have k2 : (s2.err != 0) = true := by simpa using h3
        rw [if_neg h3]
        clear h3
        go_enter Try.func27, Try.ntmps27
        go_wp2_with fail
        refine (HC.out).mono ?_
        rintro e w1 ⟨rfl, st1⟩
        have bA := bx.step st1
        replace st1 := st0.trans st1
        go_wp2_with fail
        refine (err_any st1.1).mono ?_
        rintro e wq ⟨rfl, rfl⟩
        rw [HS1.out] at st1
        go_wp2_with fail
        refine (HN.out _ st1.1).mono ?_
        rintro e w3 ⟨rfl, st3⟩
        replace bA := bA.step st3
        replace st1 := st1.trans st3
        clear st3
        have hKK := lt_of_heap bA.blk
        have hbl : Below w3.heap.size w3 (w3.alloc (.cells #[.int .i64 n, .int .i64 0, .bool false] 52)) := (Below.refl _ _).alloc (Nat.le_refl _) _
        have bl := Bxr.new w3 #[.int .i64 n, .int .i64 0, .bool false] 52 (st1.1.not_ft (Nat.le_refl _))
        replace bA := bA.below hbl
        replace st1 := st1.more hbl
        have st5 := st1
        have bl5 := bl
        have bA5 := bA
        clear bl bA st1 hbl
        go_wp2_with fail
        generalize w3.alloc (.cells #[.int .i64 n, .int .i64 0, .bool false] 52) = w4 at st5 bl5 bA5 ⊢
        go_wp2_with fail
        refine (err_any st5.1).mono ?_
        rintro e wq ⟨rfl, rfl⟩
        have q5 := bl5.cells
        have f5 := bl5.froz
        go_wp2_with fail
        refine (err_any st5.1).mono ?_
        rintro e wq ⟨rfl, rfl⟩
        have qA := bA5.cells
        have fA := bA5.froz
        have qL := bl5.cells
        go_wp2
        refine bodyPost_ret (v := .agg #[.int .i64 0, .int .i64 0, .bool false]) (by simp [results, Try.results27, go_sem, qA]) rfl ?_
        exact ⟨rfl, ((st5.set h (Nat.le_refl _) _ _).set h (Nat.le_refl _) _ _).set h (Nat.le_refl _) _ _⟩
end Go.Proofs.Ytagcildoebicnaa
