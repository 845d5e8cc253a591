/-
  The walk of Lines.
-/
import Derived.Test.YtnjhbhbohnjckaaTreeBuilder
import Derived.Test.YtnjhbhbohnjckaaTreeRows3
set_option linter.unusedVariables false
set_option linter.unusedSimpArgs false
namespace Go.Proofs.Ytnjhbhbohnjckaa
open Go.RowKit
open Tree (Tr)

theorem builder_keep {T e : TypeId} {B b : Nat} {bs : List Value} {w w' : World} (h : Lib.IsBuilderF T e B b bs w) (hk : ∀ k, k < w.heap.size → w'.heap[k]? = w.heap[k]?) : Lib.IsBuilderF T e B b bs w' := by
  have H : ∀ p, Lib.BuilderAtF T e B b p bs w → Lib.BuilderAtF T e B b p bs w' := by
    rintro p ⟨hB, v, hb, hown, hne⟩
    refine ⟨hB, v, (hk b (Array.getElem?_eq_some_iff.1 hb).1).trans hb, ⟨hown.1, ?_⟩, hne⟩
    rcases hown.2 with h0 | ⟨g, cap, cur, fz, hv, h1, h2, h3⟩
    · exact .inl h0
    · exact .inr ⟨g, cap, cur, fz, hv, h1, (hk g (Array.getElem?_eq_some_iff.1 h2).1).trans h2, h3⟩
  exact h.elim (fun x => .inl (H _ x)) (fun x => .inr (H _ x))
theorem builder_new {T e : TypeId} {B : Nat} {w : World} (hB : B ≤ w.heap.size) : Lib.IsBuilderF T e B w.heap.size [] (w.alloc (.cells #[.pointer none, .slice none 0 0] T)) :=
  .inl ⟨hB, .slice none 0 0, heap_alloc_new w _, World.ownsRowF_nil _ _ _ _, by simp [Value.ownBlock]⟩
theorem own_kept {w w' : World} {base : Nat} {e e' : TypeId} {b : Nat} {size : Nat} {v : Value} {n : Nat} {xs : List Value} (h : w.ownsRow base e size v n xs) (hk : Lib.OthersKept e' (some b) w w') (he : e ≠ e') (hb : b < base) : w'.ownsRow base e size v n xs := by
  refine ⟨h.1, ?_⟩
  rcases h.2 with h0 | ⟨g, cap, cur, hv, h0, hh, h1⟩
  · exact .inl h0
  · refine .inr ⟨g, cap, cur, hv, h0, hk g _ hh (fun e => by injection e; omega) (fun c fz e => ?_), h1⟩
    injection e with _ e1 _
    exact he e1
namespace Tree
theorem flat_take {α β : Type} (f : α → List β) (xs : List α) (k : Nat) : ((xs.take k).flatMap f).length ≤ (xs.flatMap f).length := by
  have : xs.flatMap f = (xs.take k).flatMap f ++ (xs.drop k).flatMap f := by rw [← List.flatMap_append, List.take_append_drop]
  rw [this, List.length_append]; omega
theorem flat_step {α β : Type} (f : α → List β) (xs : List α) (k : Nat) (h : k < xs.length) : (xs.take (k + 1)).flatMap f = (xs.take k).flatMap f ++ f xs[k] := by
  rw [List.take_succ_eq_append_getElem h, List.flatMap_append]; simp
theorem linesOf_take (l : List Tr) (j : Nat) (h : j < l.length) : linesOf (l.take (j + 1)) = linesOf (l.take j) ++ (rows l[j]).flatMap (· ++ [10]) := by
  unfold linesOf
  rw [flat_step rows l j h, List.flatMap_append]
theorem linesOf_take_len (l : List Tr) (j : Nat) : (linesOf (l.take j)).length ≤ (linesOf l).length := by
  have : linesOf l = linesOf (l.take j) ++ linesOf (l.drop j) := by unfold linesOf; rw [← List.flatMap_append, ← List.flatMap_append, List.take_append_drop]
  rw [this, List.length_append]; omega
end Tree

set_option maxHeartbeats 4000000 in
set_option maxRecDepth 100000 in
theorem lines_any (l : List Tr) (A : Option Addr) (c : Nat) (S : Nat → Prop) (w : World) (hl : Lies w S A l) (hS : ∀ g, S g → g < w.heap.size) (hct : Tree.counts l ≤ 1000000) (hsl : (Tree.shows l).length ≤ 1000000000) (hlo : (Tree.linesOf l).length ≤ 1000000000000) :
    Calls Try.prog 21 #[.slice A l.length c] w fun e w' => e = .returned (.string ⟨(Tree.linesOf l).toArray⟩) ∧ Below w.heap.size w w' := by
  have HL := Lib.hid hl
  have hll := Tree.len_le_counts l
  clear hl
  have hb0 := (Below.refl w.heap.size w).alloc (Nat.le_refl _) (Obj.cells #[.pointer none, .slice none 0 0] 65)
  go_enter Try.func21, Try.ntmps21
  go_wp2
  go_loopw [10] (fun i wr => ∃ j : Nat, j ≤ l.length ∧ i = .int .i64 j ∧ Lib.IsBuilderF 65 5 w.heap.size w.heap.size (Lib.byteCells (Tree.linesOf (l.take j))) wr ∧ Below w.heap.size w wr) (fun i _ => l.length - (intOf i).toNat)
  case atStart => exact ⟨0, by omega, rfl, builder_new (Nat.le_refl _), hb0⟩
  case round =>
    obtain ⟨j, hj, rfl, hbu, hb⟩ := hrel
    by_cases hjl : j < l.length
    · obtain ⟨g, o, rfl, hg, c0, c1, c2, A', c', c3, hl', hcc, hccm⟩ := HL.out.get j hjl
      have hsz := hb.size
      have hgl := hS _ hg
      have d0 := (hb.cell (p := ⟨g, o + j * 4, none⟩) hgl).trans c0
      have d1 := (hb.cell (p := ⟨g, o + j * 4 + 1, none⟩) hgl).trans c1
      have d2 := (hb.cell (p := ⟨g, o + j * 4 + 2, none⟩) hgl).trans c2
      have d3 := (hb.cell (p := ⟨g, o + j * 4 + 3, none⟩) hgl).trans c3
      have hi0 : (0 : Int) ≤ (j : Int) := Int.natCast_nonneg _
      have hi1 : (j : Int) < (l.length : Int) := by omega
      have hstep := Tree.linesOf_take l j hjl
      have hlt := Tree.linesOf_take_len l (j + 1)
      have hN0 := Tree.show1_len l j hjl
      have hct2 := Tree.counts_take l j hjl
      have hct3 := Tree.counts_take_le l (j + 1)
      have hrn := Tree.rows_len l[j]
      obtain ⟨x, hx⟩ : ∃ x, l[j] = x := ⟨_, rfl⟩
      rw [hx] at d0 d1 d2 d3 hl' hcc hstep hN0 hct2 hrn
      clear c0 c1 c2 c3 hx
      obtain ⟨mk, mp, mt, ml⟩ := x
      dsimp only [Tree.Tr.kind, Tree.Tr.pos, Tree.Tr.text, Tree.Tr.l] at d0 d1 d2 d3 hl' hcc
      have hcx : Tree.count (.mk mk mp mt ml) = 1 + Tree.counts ml := by rw [Tree.count]
      rw [hcx] at hct2 hrn
      have hb5 := hb.alloc hsz (Obj.cells #[.int .i64 mk, .int .i64 mp, .string ⟨mt.toArray⟩, .slice A' ml.length c'] 36)
      have hshm : mk = 0 → (Tree.shows ml).length ≤ 1000000000 := by
        rintro rfl
        rw [Tree.show1, if_neg (by decide), if_neg (by decide), if_pos rfl] at hN0
        simp only [List.length_append, List.length_singleton] at hN0
        omega
      have hcall := rows_any _ ml (Nat.lt_succ_self _) mk mp mt A' c' S _ (hl'.keep (fun g hg => hb5.block g (hS g hg)) (fun _ h => h)) (fun g hg => Nat.lt_of_lt_of_le (hS g hg) hb5.size) (by omega) (by omega) hshm hcc hccm
      unfold RetRows at hcall
      obtain ⟨R, hR⟩ : ∃ R, Tree.rows (.mk mk mp mt ml) = R := ⟨_, rfl⟩
      rw [hR] at hcall hstep hrn
      obtain ⟨T, hT⟩ : ∃ T, Tree.linesOf (l.take j) = T := ⟨_, rfl⟩
      rw [hT] at hbu hstep
      have hTR : T.length + (R.flatMap (· ++ [10])).length ≤ 1000000000000 := by rw [hstep, List.length_append] at hlt; omega
      have hRl : R.length ≤ 1000001 := by omega
      have HC := Lib.hid hcall
      have HT := Lib.hid hstep
      clear hcall hstep hl' hlt hN0 hct2 hct3 hR hT hcx
      have hwr : w.heap.size < wr.heap.size := by
        rcases hbu with ⟨_, v, h, _⟩ | ⟨_, v, h, _⟩ <;> exact (Array.getElem?_eq_some_iff.1 h).1
      go_wp2_with fail
      refine HC.out.mono ?_
      rintro e w5 ⟨A5, c5, rfl, hown5, hb6⟩
      have hW1 : (wr.alloc (Obj.cells #[.int .i64 mk, .int .i64 mp, .string ⟨mt.toArray⟩, .slice A' ml.length c'] 36)).heap.size = wr.heap.size + 1 := by simp
      rw [hW1] at hown5 hb6
      have hbu5 : Lib.IsBuilderF 65 5 w.heap.size w.heap.size (Lib.byteCells T) w5 := by
        refine builder_keep hbu fun k hk => (hb6.block k (by omega)).trans ?_
        exact Below.heap_alloc _ _ _ hk
      have hb7 : Below w.heap.size w w5 := hb5.trans (hb6.mono (by omega))
      clear hbu hb5 hW1 HC
      go_wp2_with fail
      go_loopw [17] (fun i wq => ∃ q : Nat, q ≤ R.length ∧ i = .int .i64 q ∧ Lib.IsBuilderF 65 5 w.heap.size w.heap.size (Lib.byteCells (T ++ (R.take q).flatMap (· ++ [10]))) wq ∧ Lib.OthersKept 5 (some w.heap.size) w5 wq ∧ Below w.heap.size w wq) (fun i _ => R.length - (intOf i).toNat)
      case atStart =>
        exact ⟨0, by omega, rfl, by rw [List.take_zero, List.flatMap_nil, List.append_nil]; exact hbu5, Lib.OthersKept.refl _ _ _, hb7⟩
      case round =>
        clear hbu5
        obtain ⟨q, hq, rfl, hbq, hoq, hbl⟩ := hrel
        by_cases hqr : q < R.length
        · have hsq := hbl.size
          have h5 := own_kept hown5 hoq (by decide) (by omega)
          obtain ⟨g5, cap5, hv, -, hg5⟩ := h5.form (by omega)
          injection hv with hA _ hc
          subst hA hc
          have e5 := h5.cellAt q (by omega)
          have hgq : (strL R)[q]? = some (.string ⟨R[q].toArray⟩) := by simp [strL, hqr]
          rw [hgq] at e5
          have hfs := Tree.flat_step (· ++ [10]) R q hqr
          have hft := Tree.flat_take (· ++ [10]) R (q + 1)
          rw [hfs] at hft
          obtain ⟨X, hX⟩ : ∃ X, R[q] = X := ⟨_, rfl⟩
          rw [hX] at e5 hfs hft
          have hk0 : (0 : Int) ≤ (q : Int) := Int.natCast_nonneg _
          have hk1 : (q : Int) < (R.length : Int) := by omega
          obtain ⟨F, hF⟩ : ∃ F, (R.take q).flatMap (· ++ [10]) = F := ⟨_, rfl⟩
          rw [hF] at hfs hft hbq
          rw [List.length_append, List.length_append, List.length_singleton] at hft
          have hXl : X.length ≤ 1000000000000 := by omega
          have hws := writeString_any w.heap.size w.heap.size (Lib.byteCells (T ++ F)) ⟨(X ++ [10]).toArray⟩ wr hbq (by rw [Lib.byteCells_length, List.length_append]; simp [ByteArray.size]; omega) hsq
          have HP := Lib.hid hfs
          have HW := Lib.hid hws
          clear hfs hgq hX hF hft hws hbq
          have hcat : (({ data := X.toArray } : ByteArray) ++ ({ data := #[10] } : ByteArray)) = ⟨(X ++ [10]).toArray⟩ := by apply ByteArray.ext; simp
          go_wp2_with fail
          refine HW.out.mono ?_
          rintro e w8 ⟨rfl, hb8, hbl8, hok8⟩
          have hcells : Lib.byteCells (T ++ F) ++ Lib.strCells ⟨(X ++ [10]).toArray⟩ = Lib.byteCells (T ++ (R.take (q + 1)).flatMap (· ++ [10])) := by
            rw [HP.out]; simp [Lib.byteCells, Lib.strCells]
          rw [hcells] at hb8
          have hb9 := hbl.trans hbl8
          have ho9 := hoq.trans hok8
          clear hcells hbl8 hok8
          go_wp2
          go_roundw
          case rel => exact ⟨q + 1, by omega, by go_num, .inr hb8, ho9, hb9⟩
          case measure => simp [intOf]; omega
        · obtain rfl : q = R.length := by omega
          rw [List.take_length, ← HT.out] at hbq
          go_wp2
          go_roundw
          case rel => exact ⟨j + 1, by omega, by go_num, hbq, hbl⟩
          case measure => simp [intOf]; omega
    · obtain rfl : j = l.length := by omega
      rw [List.take_length] at hbu
      have hst := Try.Builder_String_any_f w.heap.size w.heap.size (Tree.linesOf l) wr hbu hb.size
      have HS := Lib.hid hst
      clear hst hbu
      go_wp2_with fail
      refine HS.out.mono ?_
      rintro e w5 ⟨rfl, -, hb6⟩
      go_wp2
      go_ret
      exact ⟨rfl, hb.trans hb6⟩
end Go.Proofs.Ytnjhbhbohnjckaa
