/-
  Layer 51, plain: how long the text of light code is.
  Layer 51, plain: what code that was printed is bounded by.
-/
import Derived.Test.YtadnfekogmjieaaGreatDoorFGI
import Derived.Test.YtadnfekogmjieaaGreatDoorFGK
set_option linter.unusedVariables false
set_option linter.unusedSimpArgs false
namespace Go.Proofs.YtadnfekogmjieaaGreatDoor.Mc
def wl (w : W) : Nat := w.length + 1
/-- Light code. -/
structure Mf.Light (f : Mf) : Prop where
  code : f.code.length ≤ 80
  ps : f.ps.length ≤ 20
  rs : f.rs.length ≤ 20
  ins : ∀ x ∈ f.code, x.d.length ≤ 20 ∧ x.s.length ≤ 20 ∧ x.tos.length ≤ 20
theorem split_head (s : W) : ((Lib.split s [10]).headD []).length ≤ s.length := by
  obtain ⟨j1, j2⟩ := join_split [10] (by simp) s.length s (Nat.le_refl _)
  obtain ⟨w, L, hL⟩ := List.exists_cons_of_ne_nil j2
  rw [hL] at j1 ⊢
  rw [List.headD_cons, ← j1, Lib.join_cons, List.length_append]
  omega
end Go.Proofs.YtadnfekogmjieaaGreatDoor.Mc
set_option linter.unusedVariables false
set_option linter.unusedSimpArgs false
namespace Go.Proofs.YtadnfekogmjieaaGreatDoor.Mc
theorem join_has {c : UInt8} : ∀ {L : List W} {w : W}, w ∈ L → w.length ≤ (Lib.join L [c]).length := by
  have ht : ∀ {L : List W} {w : W}, w ∈ L → w.length ≤ (Lib.joinTail [c] L).length := by
    intro L
    induction L with
    | nil => intro w h; cases h
    | cons a L ih =>
      intro w h
      have e : Lib.joinTail [c] (a :: L) = c :: (a ++ Lib.joinTail [c] L) := by simp [Lib.joinTail]
      rw [e, List.length_cons, List.length_append]
      rcases List.mem_cons.1 h with rfl | h
      · omega
      · have := ih h; omega
  intro L w h
  rcases L with _ | ⟨a, L⟩
  · cases h
  · rw [Lib.join_cons, List.length_append]
    rcases List.mem_cons.1 h with rfl | h
    · omega
    · have := ht h; omega
theorem join_count {c : UInt8} (L : List W) : L.length ≤ (Lib.join L [c]).length + 1 := by
  have ht : ∀ L : List W, L.length ≤ (Lib.joinTail [c] L).length := by
    intro L
    induction L with
    | nil => simp
    | cons a L ih =>
      have e : Lib.joinTail [c] (a :: L) = c :: (a ++ Lib.joinTail [c] L) := by simp [Lib.joinTail]
      rw [e, List.length_cons, List.length_cons, List.length_append]
      omega
  rcases L with _ | ⟨a, L⟩
  · simp
  · have := ht L
    rw [Lib.join_cons, List.length_append, List.length_cons]
    omega
theorem index_in {z : Int} (h : index z = true) : InR z := by
  unfold index within at h
  simp only [Bool.and_eq_true, decide_eq_true_eq] at h
  unfold InR
  omega
theorem line_lists {x : Mi} (h : told x = true) : x.d.length ≤ (line x).length ∧ x.s.length ≤ (line x).length ∧ x.tos.length ≤ (line x).length := by
  have hc := join_count (c := 32) (lineW x)
  have e : line x = Lib.join (lineW x) [32] := by unfold line; rw [if_pos h]
  rw [← e] at hc
  unfold lineW at hc
  simp only [List.length_cons, List.length_append] at hc
  have h1 : x.d.length ≤ (placesW x).length ∧ x.s.length ≤ (placesW x).length := by
    unfold placesW
    split
    · rename_i h0; rw [h0.1, h0.2]; simp
    · simp only [List.length_append, List.length_cons, List.length_map]; omega
  have h2 : x.tos.length ≤ (toW x).length := by
    unfold toW
    split
    · rename_i h0; rw [h0]; simp
    · simp only [List.length_cons, List.length_map]; omega
  omega
theorem known_in {op : Int} (h : Opc.known op = true) : InR op := by
  obtain ⟨s, hs⟩ := known_mem h
  have := (ops_facts _ hs).2.2.2.2.2.2
  dsimp only at this
  unfold InR
  omega
theorem told_ok {x : Mi} (h : told x = true) (hn : x.n < 18446744073709551616) (hl : (line x).length ≤ 100000) : x.Ok := by
  have T := (told_iff x).1 h
  obtain ⟨l1, l2, l3⟩ := line_lists h
  obtain ⟨k, hk, hk2⟩ := T.kind
  have hin : InR 0 := by unfold InR; omega
  refine ⟨by unfold InR; omega, ?_, index_in T.a1, index_in T.b1, hn, ⟨by omega, fun p hp => index_in (T.d p hp)⟩, ⟨by omega, fun p hp => index_in (T.s p hp)⟩, ⟨by omega, fun z hz => index_in (T.tos z hz)⟩, ?_⟩
  · rcases ho : (row x.kind).op with _ | _
    · rw [T.op0 ho]; exact hin
    · exact known_in (T.op1 ho).1
  · have := T.t1
    unfold InR; omega
theorem may_ok {f : Mf} (h : May f) (hn : ∀ x ∈ f.code, x.n < 18446744073709551616) (hl : (print f).length ≤ 90000) : f.Ok := by
  have hp := print_lines h
  have hc := join_count (c := 10) (head f.ps f.rs f.slots :: (f.code.map line ++ [[]]))
  rw [← hp] at hc
  simp only [List.length_cons, List.length_append, List.length_map, List.length_nil] at hc
  obtain ⟨⟨h1, h2, h3⟩, -⟩ := head_may h.1
  have r1 := (right_val h1).2
  have r2 := (right_val h2).2
  refine ⟨by omega, by omega, index_in h3, by omega, fun x hx => told_ok (h.2 x hx) (hn x hx) ?_⟩
  have hm : line x ∈ head f.ps f.rs f.slots :: (f.code.map line ++ [[]]) := List.mem_cons_of_mem _ (List.mem_append_left _ (List.mem_map.2 ⟨x, hx, rfl⟩))
  have := join_has (c := 10) hm
  rw [← hp] at this
  omega
end Go.Proofs.YtadnfekogmjieaaGreatDoor.Mc
