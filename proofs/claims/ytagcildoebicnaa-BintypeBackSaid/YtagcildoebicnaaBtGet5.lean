/-
  The reads of layer 10: function types.
-/
import Derived.Test.YtagcildoebicnaaBtGet4
set_option linter.unusedVariables false
namespace Go.Proofs.Ytagcildoebicnaa
open Go.RowKit

def FunRet (W : World) (B : Nat) (p v : Value) (b : List UInt8) (x : Oct.St × List Int × List Int) (e : Ending) (w' : World) : Prop :=
  ∃ A1 c1 A2 c2, e = .returned (.agg #[.slice A1 x.2.1.length c1, .slice A2 x.2.2.length c2]) ∧ Lst w' p v A1 x.2.1 ∧ Lst w' p v A2 x.2.2 ∧ RStep W B p v b x.1 w'
theorem Lst.nil_ (w : World) (p v : Value) : Lst w p v none [] := ⟨⟨rfl, fun hn => absurd hn (by decide)⟩, fun hn => absurd hn (by decide)⟩
theorem Lst.set {w : World} {p v : Value} {A : Option Addr} {vs : List Int} (h : Lst w p v A vs) {K : Nat} {cs : Array Value} {t : TypeId} (hK : w.heap[K]? = some (.cells cs t (0, 0))) (hne : 0 < vs.length → ∀ ad, A = some ad → ad.block ≠ K) (o : Nat) (u : Value) : Lst (w.setCell ⟨K, o, none⟩ u) p v A vs := by
  refine ⟨⟨h.rd.1, fun hn => ?_⟩, h.out⟩
  obtain ⟨ad, e, hb, hc⟩ := h.rd.2 hn
  exact ⟨ad, e, by simpa using hb, fun j u' hu => (World.cell?_of_block (Below.heap_setCell _ _ _ _ (by rw [block_of_add]; exact hne hn ad e))).trans (hc j u' hu)⟩

set_option maxHeartbeats 8000000 in
set_option maxRecDepth 100000 in
theorem getFunc_any {W : World} {B : Nat} {p v : Value} {b : List UInt8} {s : Oct.St} (h : RdrAt W B p v b s) :
    Calls Try.prog 38 #[p] W (FunRet W B p v b (Oct.getFunc b s)) := by
  have hb : Below W.heap.size W (W.alloc (.cells #[.slice none 0 0, .slice none 0 0] 76)) := (Below.refl _ _).alloc (Nat.le_refl _) _
  have bx := Bxr.new W #[.slice none 0 0, .slice none 0 0] 76 (h.not_ft (Nat.le_refl _))
  have h0 := h.below hb
  have st0 := RStep.below h hb
  unfold Oct.getFunc
  dsimp only
  have HC := Lib.hid (rdByte_any h0)
  obtain ⟨s1, hs1⟩ : ∃ s1, (Oct.byte b s).1 = s1 := ⟨_, rfl⟩
  obtain ⟨x, ht⟩ : ∃ n, (Oct.byte b s).2 = n := ⟨_, rfl⟩
  rw [hs1, ht] at HC ⊢
  clear hs1 ht
  obtain ⟨s1', hs1'⟩ : ∃ s1', Oct.must s1 (x == 96) 4 = s1' := ⟨_, rfl⟩
  rw [hs1']
  have HN := Lib.hid (fun (w : World) (hw : RdrAt w B p v b s1') => vals_any hw)
  obtain ⟨y, hy⟩ : ∃ y, Oct.getVals b s1' = y := ⟨_, rfl⟩
  rw [hy] at HN ⊢
  clear hy
  obtain ⟨s2, ps⟩ := y
  have HM := Lib.hid (fun (w : World) (hw : RdrAt w B p v b s2) => vals_any hw)
  dsimp only
  obtain ⟨y, hy⟩ : ∃ y, Oct.getVals b s2 = y := ⟨_, rfl⟩
  rw [hy] at HM ⊢
  clear hy
  obtain ⟨s3, rs⟩ := y
  dsimp only
  have HF : (s1.err = 0 ∧ x = 96 ∧ s1' = s1) ∨ (s1.err = 0 ∧ ¬ x = 96 ∧ s1' = s1.fail 4) ∨ (¬ s1.err = 0 ∧ s1' = s1) := by
    by_cases h1 : s1.err = 0
    · by_cases h2 : x = 96
      · exact .inl ⟨h1, h2, by rw [← hs1', h2]; exact must_no (by simp)⟩
      · have h2' : (x == 96) = false := by simpa using h2
        exact .inr (.inl ⟨h1, h2, by rw [← hs1', h2', must_yes h1]⟩)
    · exact .inr (.inr ⟨h1, by rw [← hs1', must_no (fun hh => h1 hh.1)]⟩)
  clear hs1'
  rcases HF with ⟨h1, h2, hs⟩ | ⟨h1, h2, hs⟩ | ⟨h1, hs⟩
  · have g2 : (s1.err == 0) = true := by simpa using h1
    have HS1 : Hid (s1 = s1') := hs.symm
    subst h2
    clear hs h1
    by_cases h3 : s3.err = 0
    · have k2 : (s3.err != 0) = false := by simpa using h3
      rw [if_pos h3]
      clear h3
      go_enter Try.func38, Try.ntmps38
      go_wp2_with fail
      refine (HC.out).mono ?_
      rintro e w1 ⟨rfl, st1⟩
      have bA := bx.step st1
      replace st1 := st0.trans st1
      go_wp2_with fail
      refine (err_any st1.1).mono ?_
      rintro e wq ⟨rfl, rfl⟩
      rw [HS1.out] at st1
      have hK1 := lt_of_heap bA.blk
      go_wp2_with fail
      refine (HN.out _ st1.1).mono ?_
      rintro e w3 ⟨A1, c1, rfl, L1, st3, N1⟩
      dsimp only at st3 L1 N1
      replace bA := bA.step st3
      replace st1 := st1.trans st3
      clear st3
      dsimp only
      have hK2 := lt_of_heap bA.blk
      go_wp2_with fail
      refine (HM.out _ st1.1).mono ?_
      rintro e w4 ⟨A2, c2, rfl, L2, st3, N2⟩
      dsimp only at st3 L2 N2
      replace bA := bA.step st3
      replace L1 := L1.step st3.2
      replace st1 := st1.trans st3
      clear st3
      have hbl : Below w4.heap.size w4 (w4.alloc (.cells #[.slice A1 ps.length c1, .slice A2 rs.length c2] 76)) := (Below.refl _ _).alloc (Nat.le_refl _) _
      have bl := Bxr.new w4 #[.slice A1 ps.length c1, .slice A2 rs.length c2] 76 (st1.1.not_ft (Nat.le_refl _))
      replace bA := bA.below hbl
      replace L1 := L1.below hbl
      replace L2 := L2.below hbl
      replace st1 := st1.more hbl
      clear hbl
      dsimp only
      go_wp2_with fail
      generalize w4.alloc (.cells #[.slice A1 ps.length c1, .slice A2 rs.length c2] 76) = w5 at st1 bl bA L1 L2 ⊢
      refine (err_any st1.1).mono ?_
      rintro e wq ⟨rfl, rfl⟩
      have qA := bA.cells
      have fA := bA.froz
      have qL := bl.cells
      go_wp2
      refine bodyPost_ret (v := .agg #[.slice A1 ps.length c1, .slice A2 rs.length c2]) (by simp [results, Try.results38, go_sem, qA]) rfl ?_
      have stF := (st1.set h (Nat.le_refl _) 0 (.slice A1 ps.length c1)).set h (Nat.le_refl _) 1 (.slice A2 rs.length c2)
      refine ⟨A1, c1, A2, c2, rfl, ?_, ?_, stF⟩
      · exact (L1.set bA.blk (fun hn ad hA e => by have := N1 hn ad hA; omega) 0 _).set (Go.heap_setCell_same _ _ 0 _ _ _ bA.blk) (fun hn ad hA e => by have := N1 hn ad hA; omega) 1 _
      · exact (L2.set bA.blk (fun hn ad hA e => by have := N2 hn ad hA; omega) 0 _).set (Go.heap_setCell_same _ _ 0 _ _ _ bA.blk) (fun hn ad hA e => by have := N2 hn ad hA; omega) 1 _
    · have k2 : (s3.err != 0) = true := by simpa using h3
      rw [if_neg h3]
      clear h3
      go_enter Try.func38, Try.ntmps38
      go_wp2_with fail
      refine (HC.out).mono ?_
      rintro e w1 ⟨rfl, st1⟩
      have bA := bx.step st1
      replace st1 := st0.trans st1
      go_wp2_with fail
      refine (err_any st1.1).mono ?_
      rintro e wq ⟨rfl, rfl⟩
      rw [HS1.out] at st1
      have hK1 := lt_of_heap bA.blk
      go_wp2_with fail
      refine (HN.out _ st1.1).mono ?_
      rintro e w3 ⟨A1, c1, rfl, L1, st3, N1⟩
      dsimp only at st3 L1 N1
      replace bA := bA.step st3
      replace st1 := st1.trans st3
      clear st3
      dsimp only
      have hK2 := lt_of_heap bA.blk
      go_wp2_with fail
      refine (HM.out _ st1.1).mono ?_
      rintro e w4 ⟨A2, c2, rfl, L2, st3, N2⟩
      dsimp only at st3 L2 N2
      replace bA := bA.step st3
      replace L1 := L1.step st3.2
      replace st1 := st1.trans st3
      clear st3
      have hbl : Below w4.heap.size w4 (w4.alloc (.cells #[.slice A1 ps.length c1, .slice A2 rs.length c2] 76)) := (Below.refl _ _).alloc (Nat.le_refl _) _
      have bl := Bxr.new w4 #[.slice A1 ps.length c1, .slice A2 rs.length c2] 76 (st1.1.not_ft (Nat.le_refl _))
      replace bA := bA.below hbl
      replace L1 := L1.below hbl
      replace L2 := L2.below hbl
      replace st1 := st1.more hbl
      clear hbl
      dsimp only
      go_wp2_with fail
      generalize w4.alloc (.cells #[.slice A1 ps.length c1, .slice A2 rs.length c2] 76) = w5 at st1 bl bA L1 L2 ⊢
      refine (err_any st1.1).mono ?_
      rintro e wq ⟨rfl, rfl⟩
      have qA := bA.cells
      have fA := bA.froz
      have qL := bl.cells
      go_wp2
      refine bodyPost_ret (v := .agg #[.slice none 0 0, .slice none 0 0]) (by simp [results, Try.results38, go_sem, qA]) rfl ?_
      exact ⟨none, 0, none, 0, rfl, Lst.nil_ _ _ _, Lst.nil_ _ _ _, (st1.set h (Nat.le_refl _) _ _).set h (Nat.le_refl _) _ _⟩
  · have g2 : (s1.err == 0) = true := by simpa using h1
    have HS1 : Hid (s1.fail 4 = s1') := hs.symm
    have g3 : (x != 96) = true := by simpa using h2
    clear hs h1 h2
    by_cases h3 : s3.err = 0
    · have k2 : (s3.err != 0) = false := by simpa using h3
      rw [if_pos h3]
      clear h3
      go_enter Try.func38, Try.ntmps38
      go_wp2_with fail
      refine (HC.out).mono ?_
      rintro e w1 ⟨rfl, st1⟩
      have bA := bx.step st1
      replace st1 := st0.trans st1
      go_wp2_with fail
      refine (err_any st1.1).mono ?_
      rintro e wq ⟨rfl, rfl⟩
      go_wp2_with fail
      refine (fail_any st1.1 4).mono ?_
      rintro e w2 ⟨rfl, st2⟩
      replace bA := bA.step st2
      replace st1 := st1.trans st2
      clear st2
      rw [HS1.out] at st1
      have hK1 := lt_of_heap bA.blk
      go_wp2_with fail
      refine (HN.out _ st1.1).mono ?_
      rintro e w3 ⟨A1, c1, rfl, L1, st3, N1⟩
      dsimp only at st3 L1 N1
      replace bA := bA.step st3
      replace st1 := st1.trans st3
      clear st3
      dsimp only
      have hK2 := lt_of_heap bA.blk
      go_wp2_with fail
      refine (HM.out _ st1.1).mono ?_
      rintro e w4 ⟨A2, c2, rfl, L2, st3, N2⟩
      dsimp only at st3 L2 N2
      replace bA := bA.step st3
      replace L1 := L1.step st3.2
      replace st1 := st1.trans st3
      clear st3
      have hbl : Below w4.heap.size w4 (w4.alloc (.cells #[.slice A1 ps.length c1, .slice A2 rs.length c2] 76)) := (Below.refl _ _).alloc (Nat.le_refl _) _
      have bl := Bxr.new w4 #[.slice A1 ps.length c1, .slice A2 rs.length c2] 76 (st1.1.not_ft (Nat.le_refl _))
      replace bA := bA.below hbl
      replace L1 := L1.below hbl
      replace L2 := L2.below hbl
      replace st1 := st1.more hbl
      clear hbl
      dsimp only
      go_wp2_with fail
      generalize w4.alloc (.cells #[.slice A1 ps.length c1, .slice A2 rs.length c2] 76) = w5 at st1 bl bA L1 L2 ⊢
      refine (err_any st1.1).mono ?_
      rintro e wq ⟨rfl, rfl⟩
      have qA := bA.cells
      have fA := bA.froz
      have qL := bl.cells
      go_wp2
      refine bodyPost_ret (v := .agg #[.slice A1 ps.length c1, .slice A2 rs.length c2]) (by simp [results, Try.results38, go_sem, qA]) rfl ?_
      have stF := (st1.set h (Nat.le_refl _) 0 (.slice A1 ps.length c1)).set h (Nat.le_refl _) 1 (.slice A2 rs.length c2)
      refine ⟨A1, c1, A2, c2, rfl, ?_, ?_, stF⟩
      · exact (L1.set bA.blk (fun hn ad hA e => by have := N1 hn ad hA; omega) 0 _).set (Go.heap_setCell_same _ _ 0 _ _ _ bA.blk) (fun hn ad hA e => by have := N1 hn ad hA; omega) 1 _
      · exact (L2.set bA.blk (fun hn ad hA e => by have := N2 hn ad hA; omega) 0 _).set (Go.heap_setCell_same _ _ 0 _ _ _ bA.blk) (fun hn ad hA e => by have := N2 hn ad hA; omega) 1 _
    · have k2 : (s3.err != 0) = true := by simpa using h3
      rw [if_neg h3]
      clear h3
      go_enter Try.func38, Try.ntmps38
      go_wp2_with fail
      refine (HC.out).mono ?_
      rintro e w1 ⟨rfl, st1⟩
      have bA := bx.step st1
      replace st1 := st0.trans st1
      go_wp2_with fail
      refine (err_any st1.1).mono ?_
      rintro e wq ⟨rfl, rfl⟩
      go_wp2_with fail
      refine (fail_any st1.1 4).mono ?_
      rintro e w2 ⟨rfl, st2⟩
      replace bA := bA.step st2
      replace st1 := st1.trans st2
      clear st2
      rw [HS1.out] at st1
      have hK1 := lt_of_heap bA.blk
      go_wp2_with fail
      refine (HN.out _ st1.1).mono ?_
      rintro e w3 ⟨A1, c1, rfl, L1, st3, N1⟩
      dsimp only at st3 L1 N1
      replace bA := bA.step st3
      replace st1 := st1.trans st3
      clear st3
      dsimp only
      have hK2 := lt_of_heap bA.blk
      go_wp2_with fail
      refine (HM.out _ st1.1).mono ?_
      rintro e w4 ⟨A2, c2, rfl, L2, st3, N2⟩
      dsimp only at st3 L2 N2
      replace bA := bA.step st3
      replace L1 := L1.step st3.2
      replace st1 := st1.trans st3
      clear st3
      have hbl : Below w4.heap.size w4 (w4.alloc (.cells #[.slice A1 ps.length c1, .slice A2 rs.length c2] 76)) := (Below.refl _ _).alloc (Nat.le_refl _) _
      have bl := Bxr.new w4 #[.slice A1 ps.length c1, .slice A2 rs.length c2] 76 (st1.1.not_ft (Nat.le_refl _))
      replace bA := bA.below hbl
      replace L1 := L1.below hbl
      replace L2 := L2.below hbl
      replace st1 := st1.more hbl
      clear hbl
      dsimp only
      go_wp2_with fail
      generalize w4.alloc (.cells #[.slice A1 ps.length c1, .slice A2 rs.length c2] 76) = w5 at st1 bl bA L1 L2 ⊢
      refine (err_any st1.1).mono ?_
      rintro e wq ⟨rfl, rfl⟩
      have qA := bA.cells
      have fA := bA.froz
      have qL := bl.cells
      go_wp2
      refine bodyPost_ret (v := .agg #[.slice none 0 0, .slice none 0 0]) (by simp [results, Try.results38, go_sem, qA]) rfl ?_
      exact ⟨none, 0, none, 0, rfl, Lst.nil_ _ _ _, Lst.nil_ _ _ _, (st1.set h (Nat.le_refl _) _ _).set h (Nat.le_refl _) _ _⟩
  · have g2 : (s1.err == 0) = false := by simpa using h1
    have HS1 : Hid (s1 = s1') := hs.symm
    clear hs h1
    by_cases h3 : s3.err = 0
    · have k2 : (s3.err != 0) = false := by simpa using h3
      rw [if_pos h3]
      clear h3
      go_enter Try.func38, Try.ntmps38
      go_wp2_with fail
      refine (HC.out).mono ?_
      rintro e w1 ⟨rfl, st1⟩
      have bA := bx.step st1
      replace st1 := st0.trans st1
      go_wp2_with fail
      refine (err_any st1.1).mono ?_
      rintro e wq ⟨rfl, rfl⟩
      rw [HS1.out] at st1
      have hK1 := lt_of_heap bA.blk
      go_wp2_with fail
      refine (HN.out _ st1.1).mono ?_
      rintro e w3 ⟨A1, c1, rfl, L1, st3, N1⟩
      dsimp only at st3 L1 N1
      replace bA := bA.step st3
      replace st1 := st1.trans st3
      clear st3
      dsimp only
      have hK2 := lt_of_heap bA.blk
      go_wp2_with fail
      refine (HM.out _ st1.1).mono ?_
      rintro e w4 ⟨A2, c2, rfl, L2, st3, N2⟩
      dsimp only at st3 L2 N2
      replace bA := bA.step st3
      replace L1 := L1.step st3.2
      replace st1 := st1.trans st3
      clear st3
      have hbl : Below w4.heap.size w4 (w4.alloc (.cells #[.slice A1 ps.length c1, .slice A2 rs.length c2] 76)) := (Below.refl _ _).alloc (Nat.le_refl _) _
      have bl := Bxr.new w4 #[.slice A1 ps.length c1, .slice A2 rs.length c2] 76 (st1.1.not_ft (Nat.le_refl _))
      replace bA := bA.below hbl
      replace L1 := L1.below hbl
      replace L2 := L2.below hbl
      replace st1 := st1.more hbl
      clear hbl
      dsimp only
      go_wp2_with fail
      generalize w4.alloc (.cells #[.slice A1 ps.length c1, .slice A2 rs.length c2] 76) = w5 at st1 bl bA L1 L2 ⊢
      refine (err_any st1.1).mono ?_
      rintro e wq ⟨rfl, rfl⟩
      have qA := bA.cells
      have fA := bA.froz
      have qL := bl.cells
      go_wp2
      refine bodyPost_ret (v := .agg #[.slice A1 ps.length c1, .slice A2 rs.length c2]) (by simp [results, Try.results38, go_sem, qA]) rfl ?_
      have stF := (st1.set h (Nat.le_refl _) 0 (.slice A1 ps.length c1)).set h (Nat.le_refl _) 1 (.slice A2 rs.length c2)
      refine ⟨A1, c1, A2, c2, rfl, ?_, ?_, stF⟩
      · exact (L1.set bA.blk (fun hn ad hA e => by have := N1 hn ad hA; omega) 0 _).set (Go.heap_setCell_same _ _ 0 _ _ _ bA.blk) (fun hn ad hA e => by have := N1 hn ad hA; omega) 1 _
      · exact (L2.set bA.blk (fun hn ad hA e => by have := N2 hn ad hA; omega) 0 _).set (Go.heap_setCell_same _ _ 0 _ _ _ bA.blk) (fun hn ad hA e => by have := N2 hn ad hA; omega) 1 _
    · have k2 : (s3.err != 0) = true := by simpa using h3
      rw [if_neg h3]
      clear h3
      go_enter Try.func38, Try.ntmps38
      go_wp2_with fail
      refine (HC.out).mono ?_
      rintro e w1 ⟨rfl, st1⟩
      have bA := bx.step st1
      replace st1 := st0.trans st1
      go_wp2_with fail
      refine (err_any st1.1).mono ?_
      rintro e wq ⟨rfl, rfl⟩
      rw [HS1.out] at st1
      have hK1 := lt_of_heap bA.blk
      go_wp2_with fail
      refine (HN.out _ st1.1).mono ?_
      rintro e w3 ⟨A1, c1, rfl, L1, st3, N1⟩
      dsimp only at st3 L1 N1
      replace bA := bA.step st3
      replace st1 := st1.trans st3
      clear st3
      dsimp only
      have hK2 := lt_of_heap bA.blk
      go_wp2_with fail
      refine (HM.out _ st1.1).mono ?_
      rintro e w4 ⟨A2, c2, rfl, L2, st3, N2⟩
      dsimp only at st3 L2 N2
      replace bA := bA.step st3
      replace L1 := L1.step st3.2
      replace st1 := st1.trans st3
      clear st3
      have hbl : Below w4.heap.size w4 (w4.alloc (.cells #[.slice A1 ps.length c1, .slice A2 rs.length c2] 76)) := (Below.refl _ _).alloc (Nat.le_refl _) _
      have bl := Bxr.new w4 #[.slice A1 ps.length c1, .slice A2 rs.length c2] 76 (st1.1.not_ft (Nat.le_refl _))
      replace bA := bA.below hbl
      replace L1 := L1.below hbl
      replace L2 := L2.below hbl
      replace st1 := st1.more hbl
      clear hbl
      dsimp only
      go_wp2_with fail
      generalize w4.alloc (.cells #[.slice A1 ps.length c1, .slice A2 rs.length c2] 76) = w5 at st1 bl bA L1 L2 ⊢
      refine (err_any st1.1).mono ?_
      rintro e wq ⟨rfl, rfl⟩
      have qA := bA.cells
      have fA := bA.froz
      have qL := bl.cells
      go_wp2
      refine bodyPost_ret (v := .agg #[.slice none 0 0, .slice none 0 0]) (by simp [results, Try.results38, go_sem, qA]) rfl ?_
      exact ⟨none, 0, none, 0, rfl, Lst.nil_ _ _ _, Lst.nil_ _ _ _, (st1.set h (Nat.le_refl _) _ _).set h (Nat.le_refl _) _ _⟩
end Go.Proofs.Ytagcildoebicnaa
