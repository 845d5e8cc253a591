/-
  The walks of the reference's Count and Deep.
-/
import Derived.Test.YtnjhbhbohnjckaaTreeCount
set_option linter.unusedVariables false
namespace Go.Proofs.Ytnjhbhbohnjckaa
open Go.RowKit
open Tree (Tr)

set_option maxHeartbeats 2000000 in
set_option maxRecDepth 100000 in
theorem refCount_any : ∀ (f : Nat) (l : List Tr), Tree.counts l < f → ∀ (k p : Int) (t : ByteArray) (A : Option Addr) (c : Nat) (S : Nat → Prop) (w : World), Lies w S A l → (∀ g, S g → g < w.heap.size) → Tree.counts l ≤ 1000000 →
    Calls Try.prog 19 #[.agg #[.int .i64 k, .int .i64 p, .string t, .slice A l.length c]] w fun e w' => e = .returned (.int .i64 ((1 + Tree.counts l : Nat) : Int)) ∧ Below w.heap.size w w' := by
  intro f
  induction f with
  | zero => intro l h; omega
  | succ f ih =>
    intro l hf k p t A c S w hl hS hc
    have hlen := Tree.len_le_counts l
    have HL := Lib.hid hl
    clear hl
    go_enter Try.func19, Try.ntmps19
    go_wp2
    go_loopw [3, 4] (fun a i wr => ∃ j : Nat, j ≤ l.length ∧ a = .int .i64 ((1 + Tree.counts (l.take j) : Nat) : Int) ∧ i = .int .i64 j ∧ wr.heap[w.heap.size]? = some (.cells #[.int .i64 k, .int .i64 p, .string t, .slice A l.length c] 43 (0, 0)) ∧ Below w.heap.size w wr) (fun _ i _ => l.length - (intOf i).toNat)
    case atStart => exact ⟨0, by omega, by rw [List.take_zero, Tree.counts]; rfl, rfl, heap_alloc_new w _, (Below.refl _ _).alloc (Nat.le_refl _) _⟩
    case round =>
      obtain ⟨j, hj, rfl, rfl, hbx, hb⟩ := hrel
      have x3 : wr.cell? ⟨w.heap.size, 3, none⟩ = _ := cell_of_row _ _ _ _ _ _ hbx
      have hlx := (Array.getElem?_eq_some_iff.1 hbx).1
      simp only [List.getElem?_toArray, List.getElem?_cons_succ, List.getElem?_cons_zero] at x3
      by_cases hjl : j < l.length
      · obtain ⟨g, o, rfl, hg, c0, c1, c2, A', c', c3, hl', -⟩ := HL.out.get j hjl
        have hsz := hb.size
        have hgl := hS _ hg
        have d0 := (hb.cell (p := ⟨g, o + j * 4, none⟩) hgl).trans c0
        have d1 := (hb.cell (p := ⟨g, o + j * 4 + 1, none⟩) hgl).trans c1
        have d2 := (hb.cell (p := ⟨g, o + j * 4 + 2, none⟩) hgl).trans c2
        have d3 := (hb.cell (p := ⟨g, o + j * 4 + 3, none⟩) hgl).trans c3
        have hi0 : (0 : Int) ≤ (j : Int) := Int.natCast_nonneg _
        have hi1 : (j : Int) < (l.length : Int) := by omega
        obtain ⟨m, hm⟩ : ∃ m, l[j] = m := ⟨_, rfl⟩
        rw [hm] at d0 d1 d2 d3 hl'
        have htk := Tree.counts_take l j hjl
        rw [hm] at htk
        have htl := Tree.counts_take_le l (j + 1)
        clear c0 c1 c2 c3 hm
        obtain ⟨mk, mp, mt, ml⟩ := m
        dsimp only [Tree.Tr.kind, Tree.Tr.pos, Tree.Tr.text, Tree.Tr.l] at d0 d1 d2 d3 hl'
        rw [Tree.count] at htk
        obtain ⟨a, ha⟩ : ∃ a, Tree.counts (l.take j) = a := ⟨_, rfl⟩
        rw [ha] at htk
        have HT := Lib.hid htk
        have q1 : a + (1 + Tree.counts ml) ≤ 1000000 := by omega
        have q2 : Tree.counts ml < f := by omega
        have q3 : Tree.counts ml ≤ 1000000 := by omega
        rw [ha]
        clear htl htk ha
        go_wp2_with fail
        refine (ih ml q2 mk mp _ A' c' S _ (hl'.keep (fun g hg => hb.block g (hS g hg)) (fun _ h => h)) (fun g hg => Nat.lt_of_lt_of_le (hS g hg) hb.size) q3).mono ?_
        rintro e w2 ⟨rfl, hb2⟩
        have hb3 : Below w.heap.size w w2 := hb.trans (hb2.mono hb.size)
        have hbx2 := (hb2.block _ hlx).trans hbx
        go_wp2
        go_roundw
        case rel => exact ⟨j + 1, by omega, by rw [HT.out]; go_num, by go_num, hbx2, hb3⟩
        case measure => simp [intOf]; omega
      · obtain rfl : j = l.length := by omega
        rw [List.take_length]
        go_wp2
        go_ret
        exact ⟨rfl, hb⟩
set_option maxHeartbeats 2000000 in
set_option maxRecDepth 100000 in
theorem refDeep_any : ∀ (f : Nat) (l : List Tr), Tree.counts l < f → ∀ (k p : Int) (t : ByteArray) (A : Option Addr) (c : Nat) (S : Nat → Prop) (w : World), Lies w S A l → (∀ g, S g → g < w.heap.size) → Tree.counts l ≤ 1000000 →
    Calls Try.prog 20 #[.agg #[.int .i64 k, .int .i64 p, .string t, .slice A l.length c]] w fun e w' => e = .returned (.int .i64 ((if k = 0 then Tree.highs l + 1 else 1 : Nat) : Int)) ∧ Below w.heap.size w w' := by
  intro f
  induction f with
  | zero => intro l h; omega
  | succ f ih =>
    intro l hf k p t A c S w hl hS hc
    have hlen := Tree.len_le_counts l
    have HL := Lib.hid hl
    clear hl
    by_cases hk : k = 0
    rotate_left
    · have g1 : (k == 0) = false := by simpa using hk
      have g2 : (k != 0) = true := by simpa using hk
      rw [if_neg hk]
      clear hk
      go_enter Try.func20, Try.ntmps20
      go_wp2
      go_ret
      exact ⟨rfl, (Below.refl _ _).alloc (Nat.le_refl _) _⟩
    subst hk
    rw [if_pos rfl]
    have hmax := Tree.highs_le l
    go_enter Try.func20, Try.ntmps20
    go_wp2
    go_loopw [3, 4] (fun a i wr => ∃ j : Nat, j ≤ l.length ∧ a = .int .i64 ((Tree.highs (l.take j) : Nat) : Int) ∧ i = .int .i64 j ∧ wr.heap[w.heap.size]? = some (.cells #[.int .i64 0, .int .i64 p, .string t, .slice A l.length c] 43 (0, 0)) ∧ Below w.heap.size w wr) (fun _ i _ => l.length - (intOf i).toNat)
    case atStart => exact ⟨0, by omega, by rw [List.take_zero, Tree.highs]; rfl, rfl, heap_alloc_new w _, (Below.refl _ _).alloc (Nat.le_refl _) _⟩
    case round =>
      obtain ⟨j, hj, rfl, rfl, hbx, hb⟩ := hrel
      have x3 : wr.cell? ⟨w.heap.size, 3, none⟩ = _ := cell_of_row _ _ _ _ _ _ hbx
      have hlx := (Array.getElem?_eq_some_iff.1 hbx).1
      simp only [List.getElem?_toArray, List.getElem?_cons_succ, List.getElem?_cons_zero] at x3
      by_cases hjl : j < l.length
      · obtain ⟨g, o, rfl, hg, c0, c1, c2, A', c', c3, hl', -⟩ := HL.out.get j hjl
        have hsz := hb.size
        have hgl := hS _ hg
        have d0 := (hb.cell (p := ⟨g, o + j * 4, none⟩) hgl).trans c0
        have d1 := (hb.cell (p := ⟨g, o + j * 4 + 1, none⟩) hgl).trans c1
        have d2 := (hb.cell (p := ⟨g, o + j * 4 + 2, none⟩) hgl).trans c2
        have d3 := (hb.cell (p := ⟨g, o + j * 4 + 3, none⟩) hgl).trans c3
        have hi0 : (0 : Int) ≤ (j : Int) := Int.natCast_nonneg _
        have hi1 : (j : Int) < (l.length : Int) := by omega
        obtain ⟨m, hm⟩ : ∃ m, l[j] = m := ⟨_, rfl⟩
        rw [hm] at d0 d1 d2 d3 hl'
        have htk := Tree.counts_take l j hjl
        rw [hm] at htk
        have htl := Tree.counts_take_le l (j + 1)
        clear c0 c1 c2 c3
        obtain ⟨mk, mp, mt, ml⟩ := m
        have hm' := hm
        clear hm
        dsimp only [Tree.Tr.kind, Tree.Tr.pos, Tree.Tr.text, Tree.Tr.l] at d0 d1 d2 d3 hl'
        rw [Tree.count] at htk
        have hhk := Tree.highs_take l j hjl
        rw [hm'] at hhk
        rw [Tree.high] at hhk
        obtain ⟨a, ha⟩ : ∃ a, Tree.highs (l.take j) = a := ⟨_, rfl⟩
        obtain ⟨d, hd⟩ : ∃ d, (if mk = 0 then Tree.highs ml + 1 else 1) = d := ⟨_, rfl⟩
        rw [ha, hd] at hhk
        have HT := Lib.hid hhk
        have HD := Lib.hid hd
        clear hhk hd
        have q2 : Tree.counts ml < f := by omega
        have q3 : Tree.counts ml ≤ 1000000 := by omega
        rw [ha]
        clear htl htk ha hm'
        go_wp2_with fail
        refine (ih ml q2 mk mp _ A' c' S _ (hl'.keep (fun g hg => hb.block g (hS g hg)) (fun _ h => h)) (fun g hg => Nat.lt_of_lt_of_le (hS g hg) hb.size) q3).mono ?_
        rintro e w2 ⟨rfl, hb2⟩; rw [HD.out]
        have hb3 : Below w.heap.size w w2 := hb.trans (hb2.mono hb.size)
        have hbx2 := (hb2.block _ hlx).trans hbx
        go_wp2
        go_roundw
        case rel => exact ⟨j + 1, by omega, by rw [HT.out]; simp only [Value.int.injEq, true_and]; split <;> omega, by go_num, hbx2, hb3⟩
        case measure => simp [intOf]; omega
      · obtain rfl : j = l.length := by omega
        rw [List.take_length]
        go_wp2
        go_ret
        exact ⟨rfl, hb⟩
end Go.Proofs.Ytnjhbhbohnjckaa
