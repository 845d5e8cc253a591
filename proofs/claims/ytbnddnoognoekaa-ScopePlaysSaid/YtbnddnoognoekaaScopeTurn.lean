/-
  One kind of a Scope has changed.
-/
import Derived.Test.YtbnddnoognoekaaScopeSep
set_option linter.unusedVariables false
namespace Go.Proofs.Ytbnddnoognoekaa
open Go.RowKit

def upd {α : Type} (f : Nat → α) (k : Nat) (v : α) : Nat → α := fun j => if j = k then v else f j
theorem upd_same {α : Type} (f : Nat → α) (k : Nat) (v : α) : upd f k v k = v := by simp [upd]
theorem upd_other {α : Type} (f : Nat → α) (k : Nat) (v : α) {j : Nat} (h : j ≠ k) : upd f k v j = f j := by simp [upd, h]

theorem ScopeAt.turn_kind {W w3 : World} {B s : Nat} {y : Lay} {σ : SSt} (h : ScopeAt W B s y σ) (k : Nat) (hk : k < 9) (nv' : Value) (m' : Nat) (xs' : List Nm)
    (hK : KindAt w3 B (y.p k) m' nv' xs') (hb : Below B W w3)
    (hfar : ∀ b, b < W.heap.size → b ≠ y.p k → b ≠ y.m k → (y.nv k).ownBlock ≠ some b → w3.heap[b]? = W.heap[b]?)
    (hn : nv'.ownBlock = (y.nv k).ownBlock ∨ nv'.ownBlock = none ∨ ∃ g, nv'.ownBlock = some g ∧ W.heap.size ≤ g) (hm : m' = y.m k ∨ W.heap.size ≤ m') :
    ScopeAt w3 B s { y with nv := upd y.nv k nv', m := upd y.m k m' } { σ with k := upd σ.k k xs' } ∧ Turned W w3 B s y { y with nv := upd y.nv k nv', m := upd y.m k m' } := by
  have keep : ∀ b, b < W.heap.size → b ≠ y.p k → b ≠ y.m k → tagAt W b ≠ some (61 + 1) → w3.heap[b]? = W.heap[b]? := fun b hl h1 h2 h3 =>
    hfar b hl h1 h2 (fun e => h3 (h.tn hk e))
  have hmlt : ∀ j, j < 9 → y.m j < W.heap.size := fun j hj => by obtain ⟨n, _, hm⟩ := (h.kind j hj).map; exact hm.lt
  refine ⟨⟨?_, ?_, fun j hj => ?_, ?_, h.ls, h.la, h.pinj, fun i j hi hj e => ?_, fun j hj => ?_, fun i j hi hj hij g hg => ?_⟩, ⟨hb, fun b hl hf => ?_, fun b hf => ?_⟩⟩
  · exact (keep s (lt_of_heap h.blk) (ne_tag h.ts (h.tp hk) (by decide)) (ne_tag h.ts (h.tm hk) (by decide)) (by rw [h.ts]; decide)).trans h.blk
  · exact h.map.same (keep y.a h.map.lt (ne_tag h.ta (h.tp hk) (by decide)) (Ne.symm (h.ma k hk)) (by rw [h.ta]; decide))
  · by_cases hjk : j = k
    · subst hjk
      dsimp only
      rw [upd_same, upd_same, upd_same]
      exact hK
    · dsimp only
      rw [upd_other _ _ _ hjk, upd_other _ _ _ hjk, upd_other _ _ _ hjk]
      have hJ := h.kind j hj
      refine hJ.same (keep _ (lt_of_heap hJ.blk) (fun e => hjk (h.pinj j k hj hk e)) (ne_tag (h.tp hj) (h.tm hk) (by decide)) (by rw [h.tp hj]; decide)) (keep _ (hmlt j hj) (ne_tag (h.tm hj) (h.tp hk) (by decide)) (fun e => hjk (h.minj j k hj hk e)) (by rw [h.tm hj]; decide)) (fun g hg => ?_)
      exact hfar g (hJ.row.lt g hg).2 (ne_tag (h.tn hj hg) (h.tp hk) (by decide)) (ne_tag (h.tn hj hg) (h.tm hk) (by decide)) (h.rinj j k hj hk hjk g hg)
  · exact own_same h.labs (fun g hg => keep g (h.labs.lt g hg).2 (ne_tag (h.tl hg) (h.tp hk) (by decide)) (ne_tag (h.tl hg) (h.tm hk) (by decide)) (by rw [h.tl hg]; decide))
  · dsimp only at e
    by_cases hik : i = k <;> by_cases hjk : j = k
    · omega
    · subst hik
      rw [upd_same, upd_other _ _ _ hjk] at e
      rcases hm with h1 | h1
      · exact h.minj i j hi hj (h1 ▸ e)
      · have := hmlt j hj; omega
    · subst hjk
      rw [upd_same, upd_other _ _ _ hik] at e
      rcases hm with h1 | h1
      · exact h.minj i j hi hj (h1 ▸ e)
      · have := hmlt i hi; omega
    · rw [upd_other _ _ _ hik, upd_other _ _ _ hjk] at e
      exact h.minj i j hi hj e
  · dsimp only
    by_cases hjk : j = k
    · subst hjk
      rw [upd_same]
      rcases hm with h1 | h1
      · rw [h1]; exact h.ma j hj
      · have := h.map.lt; omega
    · rw [upd_other _ _ _ hjk]
      exact h.ma j hj
  · dsimp only at hg ⊢
    by_cases hik : i = k <;> by_cases hjk : j = k
    · omega
    · subst hik
      rw [upd_same] at hg
      rw [upd_other _ _ _ hjk]
      rcases hn with h1 | h1 | ⟨g', h1, h2⟩
      · exact h.rinj i j hi hj hij g (h1 ▸ hg)
      · rw [h1] at hg; cases hg
      · rw [h1] at hg
        injection hg with hg
        intro e
        have := ((h.kind j hj).row.lt g e).2
        omega
    · subst hjk
      rw [upd_other _ _ _ hik] at hg
      rw [upd_same]
      rcases hn with h1 | h1 | ⟨g', h1, h2⟩
      · rw [h1]; exact h.rinj i j hi hj hij g hg
      · rw [h1]; simp
      · rw [h1]
        intro e
        injection e with e
        have := ((h.kind i hi).row.lt g hg).2
        omega
    · rw [upd_other _ _ _ hik] at hg
      rw [upd_other _ _ _ hjk]
      exact h.rinj i j hi hj hij g hg
  · exact hfar b hl (fun e => hf (.inr (.inr (.inr ⟨k, hk, .inl e⟩)))) (fun e => hf (.inr (.inr (.inr ⟨k, hk, .inr (.inl e)⟩)))) (fun e => hf (.inr (.inr (.inr ⟨k, hk, .inr (.inr e)⟩))))
  · rcases hf with hf | hf | hf | ⟨j, hj, hf⟩
    · exact .inl (.inl hf)
    · exact .inl (.inr (.inl hf))
    · exact .inl (.inr (.inr (.inl hf)))
    · by_cases hjk : j = k
      · subst hjk
        dsimp only at hf
        rw [upd_same, upd_same] at hf
        rcases hf with hf | hf | hf
        · exact .inl (.inr (.inr (.inr ⟨j, hj, .inl hf⟩)))
        · rcases hm with h1 | h1
          · exact .inl (.inr (.inr (.inr ⟨j, hj, .inr (.inl (h1 ▸ hf))⟩)))
          · exact .inr (hf ▸ h1)
        · rcases hn with h1 | h1 | ⟨g', h1, h2⟩
          · exact .inl (.inr (.inr (.inr ⟨j, hj, .inr (.inr (h1 ▸ hf))⟩)))
          · rw [h1] at hf; cases hf
          · rw [h1] at hf
            injection hf with hf
            exact .inr (hf ▸ h2)
      · dsimp only at hf
        rw [upd_other _ _ _ hjk, upd_other _ _ _ hjk] at hf
        exact .inl (.inr (.inr (.inr ⟨j, hj, hf⟩)))
end Go.Proofs.Ytbnddnoognoekaa
