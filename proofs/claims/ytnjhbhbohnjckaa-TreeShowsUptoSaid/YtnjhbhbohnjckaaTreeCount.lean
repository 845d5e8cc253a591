/-
  The walks of Count and Deep, the program's and the reference's.
-/
import Derived.Test.YtnjhbhbohnjckaaTreeMem
import Derived.WalkMore
set_option linter.unusedVariables false
namespace Go.Proofs.Ytnjhbhbohnjckaa
open Go.RowKit
open Tree (Tr)

namespace Tree
theorem counts_snoc (l : List Tr) (n : Tr) : counts (l ++ [n]) = counts l + count n := by
  induction l with
  | nil => rw [List.nil_append, counts, counts, counts]; omega
  | cons m l ih => rw [List.cons_append, counts, counts, ih]; omega
theorem counts_take (l : List Tr) (k : Nat) (h : k < l.length) : counts (l.take (k + 1)) = counts (l.take k) + count l[k] := by
  rw [List.take_succ_eq_append_getElem h, counts_snoc]
theorem counts_take_le (l : List Tr) : ∀ k, counts (l.take k) ≤ counts l := by
  induction l with
  | nil => intro k; simp
  | cons n l ih => intro k; cases k with
    | zero => rw [List.take_zero, counts]; omega
    | succ k => rw [List.take_succ_cons, counts, counts]; have := ih k; omega
theorem len_le_counts (l : List Tr) : l.length ≤ counts l := by
  induction l with
  | nil => simp
  | cons n l ih => obtain ⟨k, p, t, c⟩ := n; rw [counts, count, List.length_cons]; omega
theorem highs_snoc (l : List Tr) (n : Tr) : highs (l ++ [n]) = max (highs l) (high n) := by
  induction l with
  | nil => rw [List.nil_append, highs, highs, highs]; omega
  | cons m l ih => rw [List.cons_append, highs, highs, ih]; omega
theorem highs_take (l : List Tr) (k : Nat) (h : k < l.length) : highs (l.take (k + 1)) = max (highs (l.take k)) (high l[k]) := by
  rw [List.take_succ_eq_append_getElem h, highs_snoc]
mutual
theorem high_le : ∀ n : Tr, high n ≤ count n
  | .mk k p t l => by rw [high, count]; have := highs_le l; split <;> omega
theorem highs_le : ∀ l : List Tr, highs l ≤ counts l
  | [] => by rw [highs]; omega
  | n :: l => by rw [highs, counts]; have := high_le n; have := highs_le l; omega
end
end Tree

set_option maxHeartbeats 2000000 in
set_option maxRecDepth 100000 in
theorem count_any : ∀ (f : Nat) (l : List Tr), Tree.counts l < f → ∀ (k p : Int) (t : ByteArray) (A : Option Addr) (c : Nat) (S : Nat → Prop) (w : World), Lies w S A l → (∀ g, S g → g < w.heap.size) → Tree.counts l ≤ 1000000 →
    Calls Try.prog 14 #[.agg #[.int .i64 k, .int .i64 p, .string t, .slice A l.length c]] w fun e w' => e = .returned (.int .i64 ((1 + Tree.counts l : Nat) : Int)) ∧ Below w.heap.size w w' := by
  intro f
  induction f with
  | zero => intro l h; omega
  | succ f ih =>
    intro l hf k p t A c S w hl hS hc
    have hlen := Tree.len_le_counts l
    have HL := Lib.hid hl
    clear hl
    go_enter Try.func14, Try.ntmps14
    go_wp2
    go_loopw [3, 9] (fun a i wr => ∃ j : Nat, j ≤ l.length ∧ a = .int .i64 ((1 + Tree.counts (l.take j) : Nat) : Int) ∧ i = .int .i64 j ∧ Below w.heap.size w wr) (fun _ i _ => l.length - (intOf i).toNat)
    case atStart => exact ⟨0, by omega, by rw [List.take_zero, Tree.counts]; rfl, rfl, (Below.refl _ _).alloc (Nat.le_refl _) _⟩
    case round =>
      obtain ⟨j, hj, rfl, rfl, hb⟩ := hrel
      by_cases hjl : j < l.length
      · obtain ⟨g, o, rfl, hg, c0, c1, c2, A', c', c3, hl', -⟩ := HL.out.get j hjl
        have hsz := hb.size
        have hgl := hS _ hg
        have d0 := (hb.cell (p := ⟨g, o + j * 4, none⟩) hgl).trans c0
        have d1 := (hb.cell (p := ⟨g, o + j * 4 + 1, none⟩) hgl).trans c1
        have d2 := (hb.cell (p := ⟨g, o + j * 4 + 2, none⟩) hgl).trans c2
        have d3 := (hb.cell (p := ⟨g, o + j * 4 + 3, none⟩) hgl).trans c3
        have hi0 : (0 : Int) ≤ (j : Int) := Int.natCast_nonneg _
        have hi1 : (j : Int) < (l.length : Int) := by omega
        obtain ⟨m, hm⟩ : ∃ m, l[j] = m := ⟨_, rfl⟩
        rw [hm] at d0 d1 d2 d3 hl'
        have htk := Tree.counts_take l j hjl
        rw [hm] at htk
        have htl := Tree.counts_take_le l (j + 1)
        clear c0 c1 c2 c3 hm
        obtain ⟨mk, mp, mt, ml⟩ := m
        dsimp only [Tree.Tr.kind, Tree.Tr.pos, Tree.Tr.text, Tree.Tr.l] at d0 d1 d2 d3 hl'
        rw [Tree.count] at htk
        obtain ⟨a, ha⟩ : ∃ a, Tree.counts (l.take j) = a := ⟨_, rfl⟩
        rw [ha] at htk
        have HT := Lib.hid htk
        have q1 : a + (1 + Tree.counts ml) ≤ 1000000 := by omega
        have q2 : Tree.counts ml < f := by omega
        have q3 : Tree.counts ml ≤ 1000000 := by omega
        rw [ha]
        clear htl htk ha
        go_wp2_with fail
        have hb1 := hb.alloc hsz (Obj.cells #[.int .i64 mk, .int .i64 mp, .string ⟨mt.toArray⟩, .slice A' ml.length c'] 36)
        refine (ih ml q2 mk mp _ A' c' S _ (hl'.keep (fun g hg => hb1.block g (hS g hg)) (fun _ h => h)) (fun g hg => Nat.lt_of_lt_of_le (hS g hg) hb1.size) q3).mono ?_
        rintro e w2 ⟨rfl, hb2⟩
        have hb3 : Below w.heap.size w w2 := hb1.trans (hb2.mono hb1.size)
        go_wp2
        go_roundw
        case rel => exact ⟨j + 1, by omega, by rw [HT.out]; go_num, by go_num, hb3⟩
        case measure => simp [intOf]; omega
      · obtain rfl : j = l.length := by omega
        rw [List.take_length]
        go_wp2
        go_ret
        exact ⟨rfl, hb⟩
set_option maxHeartbeats 2000000 in
set_option maxRecDepth 100000 in
theorem deep_any : ∀ (f : Nat) (l : List Tr), Tree.counts l < f → ∀ (k p : Int) (t : ByteArray) (A : Option Addr) (c : Nat) (S : Nat → Prop) (w : World), Lies w S A l → (∀ g, S g → g < w.heap.size) → Tree.counts l ≤ 1000000 →
    Calls Try.prog 13 #[.agg #[.int .i64 k, .int .i64 p, .string t, .slice A l.length c]] w fun e w' => e = .returned (.int .i64 ((if k = 0 then Tree.highs l + 1 else 1 : Nat) : Int)) ∧ Below w.heap.size w w' := by
  intro f
  induction f with
  | zero => intro l h; omega
  | succ f ih =>
    intro l hf k p t A c S w hl hS hc
    have hlen := Tree.len_le_counts l
    have HL := Lib.hid hl
    clear hl
    by_cases hk : k = 0
    rotate_left
    · have g1 : (k == 0) = false := by simpa using hk
      have g2 : (k != 0) = true := by simpa using hk
      rw [if_neg hk]
      clear hk
      go_enter Try.func13, Try.ntmps13
      go_wp2
      go_ret
      exact ⟨rfl, (Below.refl _ _).alloc (Nat.le_refl _) _⟩
    subst hk
    rw [if_pos rfl]
    have hmax := Tree.highs_le l
    go_enter Try.func13, Try.ntmps13
    go_wp2
    go_loopw [3, 12] (fun a i wr => ∃ j : Nat, j ≤ l.length ∧ a = .int .i64 ((Tree.highs (l.take j) : Nat) : Int) ∧ i = .int .i64 j ∧ Below w.heap.size w wr) (fun _ i _ => l.length - (intOf i).toNat)
    case atStart => exact ⟨0, by omega, by rw [List.take_zero, Tree.highs]; rfl, rfl, (Below.refl _ _).alloc (Nat.le_refl _) _⟩
    case round =>
      obtain ⟨j, hj, rfl, rfl, hb⟩ := hrel
      by_cases hjl : j < l.length
      · obtain ⟨g, o, rfl, hg, c0, c1, c2, A', c', c3, hl', -⟩ := HL.out.get j hjl
        have hsz := hb.size
        have hgl := hS _ hg
        have d0 := (hb.cell (p := ⟨g, o + j * 4, none⟩) hgl).trans c0
        have d1 := (hb.cell (p := ⟨g, o + j * 4 + 1, none⟩) hgl).trans c1
        have d2 := (hb.cell (p := ⟨g, o + j * 4 + 2, none⟩) hgl).trans c2
        have d3 := (hb.cell (p := ⟨g, o + j * 4 + 3, none⟩) hgl).trans c3
        have hi0 : (0 : Int) ≤ (j : Int) := Int.natCast_nonneg _
        have hi1 : (j : Int) < (l.length : Int) := by omega
        obtain ⟨m, hm⟩ : ∃ m, l[j] = m := ⟨_, rfl⟩
        rw [hm] at d0 d1 d2 d3 hl'
        have htk := Tree.counts_take l j hjl
        rw [hm] at htk
        have htl := Tree.counts_take_le l (j + 1)
        clear c0 c1 c2 c3
        obtain ⟨mk, mp, mt, ml⟩ := m
        have hm' := hm
        clear hm
        dsimp only [Tree.Tr.kind, Tree.Tr.pos, Tree.Tr.text, Tree.Tr.l] at d0 d1 d2 d3 hl'
        rw [Tree.count] at htk
        have hhk := Tree.highs_take l j hjl
        rw [hm'] at hhk
        rw [Tree.high] at hhk
        obtain ⟨a, ha⟩ : ∃ a, Tree.highs (l.take j) = a := ⟨_, rfl⟩
        obtain ⟨d, hd⟩ : ∃ d, (if mk = 0 then Tree.highs ml + 1 else 1) = d := ⟨_, rfl⟩
        rw [ha, hd] at hhk
        have HT := Lib.hid hhk
        have HD := Lib.hid hd
        clear hhk hd
        have q2 : Tree.counts ml < f := by omega
        have q3 : Tree.counts ml ≤ 1000000 := by omega
        rw [ha]
        clear htl htk ha hm'
        go_wp2_with fail
        have hb1 := hb.alloc hsz (Obj.cells #[.int .i64 mk, .int .i64 mp, .string ⟨mt.toArray⟩, .slice A' ml.length c'] 36)
        refine (ih ml q2 mk mp _ A' c' S _ (hl'.keep (fun g hg => hb1.block g (hS g hg)) (fun _ h => h)) (fun g hg => Nat.lt_of_lt_of_le (hS g hg) hb1.size) q3).mono ?_
        rintro e w2 ⟨rfl, hb2⟩; rw [HD.out]
        have hb3 : Below w.heap.size w w2 := hb1.trans (hb2.mono hb1.size)
        go_wp2
        go_roundw
        case rel => exact ⟨j + 1, by omega, by rw [HT.out]; simp only [Value.int.injEq, true_and]; split <;> omega, by go_num, hb3⟩
        case measure => simp [intOf]; omega
      · obtain rfl : j = l.length := by omega
        rw [List.take_length]
        go_wp2
        go_ret
        exact ⟨rfl, hb⟩
end Go.Proofs.Ytnjhbhbohnjckaa
