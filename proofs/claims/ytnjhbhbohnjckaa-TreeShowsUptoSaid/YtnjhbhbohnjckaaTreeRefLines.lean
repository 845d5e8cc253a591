/-
  The walk of the reference's Lines.
-/
import Derived.Test.YtnjhbhbohnjckaaTreeRLines
import Derived.Test.YtnjhbhbohnjckaaTreeLines
set_option linter.unusedVariables false
set_option linter.unusedSimpArgs false
namespace Go.Proofs.Ytnjhbhbohnjckaa
open Go.RowKit
open Tree (Tr)

set_option maxHeartbeats 4000000 in
set_option maxRecDepth 100000 in
theorem refLinesOf_any (l : List Tr) (A : Option Addr) (c : Nat) (S : Nat → Prop) (w : World) (hl : Lies w S A l) (hS : ∀ g, S g → g < w.heap.size) (hct : Tree.counts l ≤ 1000000) (hsl : (Tree.shows l).length ≤ 1000000000) (hlo : (Tree.linesOf l).length ≤ 1000000000000) :
    Calls Try.prog 22 #[.slice A l.length c] w fun e w' => e = .returned (.string ⟨(Tree.linesOf l).toArray⟩) ∧ Below w.heap.size w w' := by
  have HL := Lib.hid hl
  have hll := Tree.len_le_counts l
  clear hl
  go_enter Try.func22, Try.ntmps22
  go_wp2
  go_loopw [3, 4] (fun s i wr => ∃ j : Nat, j ≤ l.length ∧ i = .int .i64 (j : Int) ∧ s = .string ⟨(Tree.linesOf (l.take j)).toArray⟩ ∧ Below w.heap.size w wr) (fun _ i _ => l.length - (intOf i).toNat)
  case atStart => exact ⟨0, by omega, rfl, rfl, Below.refl _ _⟩
  case round =>
    obtain ⟨j, hj, rfl, rfl, hb⟩ := hrel
    by_cases hjl : j < l.length
    · obtain ⟨g, o, rfl, hg, c0, c1, c2, A', c', c3, hl', hcc, hccm⟩ := HL.out.get j hjl
      have hsz := hb.size
      have hgl := hS _ hg
      have d0 := (hb.cell (p := ⟨g, o + j * 4, none⟩) hgl).trans c0
      have d1 := (hb.cell (p := ⟨g, o + j * 4 + 1, none⟩) hgl).trans c1
      have d2 := (hb.cell (p := ⟨g, o + j * 4 + 2, none⟩) hgl).trans c2
      have d3 := (hb.cell (p := ⟨g, o + j * 4 + 3, none⟩) hgl).trans c3
      have hi0 : (0 : Int) ≤ (j : Int) := Int.natCast_nonneg _
      have hi1 : (j : Int) < (l.length : Int) := by omega
      have hstep := Tree.linesOf_take l j hjl
      have hlt := Tree.linesOf_take_len l (j + 1)
      have hN0 := Tree.show1_len l j hjl
      have hct2 := Tree.counts_take l j hjl
      have hct3 := Tree.counts_take_le l (j + 1)
      have hrn := Tree.rows_len l[j]
      obtain ⟨x, hx⟩ : ∃ x, l[j] = x := ⟨_, rfl⟩
      rw [hx] at d0 d1 d2 d3 hl' hcc hstep hN0 hct2 hrn
      clear c0 c1 c2 c3 hx
      obtain ⟨mk, mp, mt, ml⟩ := x
      dsimp only [Tree.Tr.kind, Tree.Tr.pos, Tree.Tr.text, Tree.Tr.l] at d0 d1 d2 d3 hl' hcc
      have hcx : Tree.count (.mk mk mp mt ml) = 1 + Tree.counts ml := by rw [Tree.count]
      rw [hcx] at hct2 hrn
      have hshm : mk = 0 → (Tree.shows ml).length ≤ 1000000000 := by
        rintro rfl
        rw [Tree.show1, if_neg (by decide), if_neg (by decide), if_pos rfl] at hN0
        simp only [List.length_append, List.length_singleton] at hN0
        omega
      have hcall := refLines_any _ ml (Nat.lt_succ_self _) mk mp mt [] A' c' S wr (hl'.keep (fun g hg => hb.block g (hS g hg)) (fun _ h => h)) (fun g hg => Nat.lt_of_lt_of_le (hS g hg) hb.size) (by omega) (by omega) hshm (by simp; omega) hcc hccm
      unfold RetRLines at hcall
      have hmap : (Tree.rows (.mk mk mp mt ml)).map (([] : List UInt8) ++ ·) = Tree.rows (.mk mk mp mt ml) := by simp
      rw [hmap, show (⟨([] : List UInt8).toArray⟩ : ByteArray) = { data := #[] } from rfl] at hcall
      obtain ⟨R, hR⟩ : ∃ R, Tree.rows (.mk mk mp mt ml) = R := ⟨_, rfl⟩
      rw [hR] at hcall hstep hrn
      obtain ⟨T, hT⟩ : ∃ T, Tree.linesOf (l.take j) = T := ⟨_, rfl⟩
      rw [hT] at hstep ⊢
      have hTR : T.length + (R.flatMap (· ++ [10])).length ≤ 1000000000000 := by rw [hstep, List.length_append] at hlt; omega
      have hRl : R.length ≤ 1000001 := by omega
      have HC := Lib.hid hcall
      have HT := Lib.hid hstep
      clear hcall hstep hl' hlt hN0 hct2 hct3 hR hT hcx hmap
      go_wp2_with fail
      refine HC.out.mono ?_
      rintro e w5 ⟨A5, c5, rfl, hown5, hb6⟩
      have hb7 : Below w.heap.size w w5 := hb.trans (hb6.mono hsz)
      clear HC d0 d1 d2 d3
      go_wp2_with fail
      go_loop [3, 6] (fun s i => ∃ q : Nat, q ≤ R.length ∧ i = .int .i64 (q : Int) ∧ s = .string ⟨(T ++ (R.take q).flatMap (· ++ [10])).toArray⟩) (fun _ i => R.length - (intOf i).toNat)
      case atStart => exact ⟨0, by omega, rfl, by simp⟩
      case round =>
        obtain ⟨q, hq, rfl, rfl⟩ := hrel
        by_cases hqr : q < R.length
        · obtain ⟨g5, cap5, hv, -, hg5⟩ := hown5.form (by omega)
          injection hv with hA _ hc
          subst hA hc
          have e5 := hown5.cellAt q (by omega)
          have hgq : (strL R)[q]? = some (.string ⟨R[q].toArray⟩) := by simp [strL, hqr]
          rw [hgq] at e5
          have hfs := Tree.flat_step (· ++ [10]) R q hqr
          have hft := Tree.flat_take (· ++ [10]) R (q + 1)
          rw [hfs] at hft
          obtain ⟨X, hX⟩ : ∃ X, R[q] = X := ⟨_, rfl⟩
          rw [hX] at e5 hfs hft
          have hk0 : (0 : Int) ≤ (q : Int) := Int.natCast_nonneg _
          have hk1 : (q : Int) < (R.length : Int) := by omega
          obtain ⟨F, hF⟩ : ∃ F, (R.take q).flatMap (· ++ [10]) = F := ⟨_, rfl⟩
          rw [hF] at hfs hft ⊢
          rw [List.length_append, List.length_append, List.length_singleton] at hft
          have hcat : (({ data := (T ++ F).toArray } : ByteArray) ++ ({ data := X.toArray } : ByteArray)) ++ ({ data := #[10] } : ByteArray) = ⟨(T ++ (R.take (q + 1)).flatMap (· ++ [10])).toArray⟩ := by
            rw [show ({ data := #[10] } : ByteArray) = ⟨[10].toArray⟩ from rfl, bytes_cat, bytes_cat, hfs]
            simp
          have hz1 : (ByteArray.mk (T ++ F).toArray).size = T.length + F.length := by simp [ByteArray.size]
          have hz2 : (ByteArray.mk X.toArray).size = X.length := by simp [ByteArray.size]
          have HCT := Lib.hid hcat
          clear hcat hfs hgq hX hF
          have hTF : T.length + F.length + X.length + 1 ≤ 1000000000000 := by omega
          go_wp2
          go_round
          case rel => exact ⟨q + 1, by omega, by go_num, by rw [← HCT.out]⟩
          case measure => simp [intOf]; omega
        · obtain rfl : q = R.length := by omega
          rw [List.take_length, ← HT.out]
          go_wp2
          go_roundw
          case rel => exact ⟨j + 1, by omega, by go_num, rfl, hb7⟩
          case measure => simp [intOf]; omega
    · obtain rfl : j = l.length := by omega
      rw [List.take_length]
      go_wp2
      go_ret
      exact ⟨rfl, hb⟩
end Go.Proofs.Ytnjhbhbohnjckaa
