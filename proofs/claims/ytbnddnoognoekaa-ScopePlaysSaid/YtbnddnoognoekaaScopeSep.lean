/-
  The blocks of a Scope are apart from each other, by what they hold.
-/
import Derived.Test.YtbnddnoognoekaaScopeRead
set_option linter.unusedVariables false
namespace Go.Proofs.Ytbnddnoognoekaa
open Go.RowKit

def tag : Obj → Nat
  | .cells _ t _ => t + 1
  | _ => 0
def tagAt (W : World) (b : Nat) : Option Nat := (W.heap[b]?).map tag
theorem ne_tag {W : World} {b c x z : Nat} (h1 : tagAt W b = some x) (h2 : tagAt W c = some z) (h : x ≠ z) : b ≠ c := by
  intro e
  subst e
  rw [h1] at h2
  injection h2 with h2
  exact h h2
theorem tag_cells {W : World} {b : Nat} {cs : Array Value} {t : TypeId} {fr : Nat × Nat} (h : W.heap[b]? = some (.cells cs t fr)) : tagAt W b = some (t + 1) := by simp [tagAt, h, tag]
theorem tag_map {W : World} {k : TypeId} {b n : Nat} {f : Lit → Option Value} (h : MapIs W k b n f) : tagAt W b = some 0 := by
  obtain ⟨es, c, hb⟩ := h.isMap
  simp [tagAt, hb, tag]
theorem tag_row {W : World} {base : Nat} {e : TypeId} {size n g : Nat} {v : Value} {xs : List Value} (h : W.ownsRow base e size v n xs) (hg : v.ownBlock = some g) : tagAt W g = some (e + 1) := by
  rcases h.2 with ⟨rfl, _⟩ | ⟨g', cap, cur, rfl, _, h2, _⟩
  · cases hg
  · have : g' = g := by simpa [Value.ownBlock] using hg
    subst this
    exact tag_cells h2
section
variable {W : World} {B s : Nat} {y : Lay} {σ : SSt} (h : ScopeAt W B s y σ)
include h
theorem ScopeAt.ts : tagAt W s = some (58 + 1) := tag_cells h.blk
theorem ScopeAt.ta : tagAt W y.a = some 0 := tag_map h.map
theorem ScopeAt.tp {k : Nat} (hk : k < 9) : tagAt W (y.p k) = some (65 + 1) := tag_cells (h.kind k hk).blk
theorem ScopeAt.tm {k : Nat} (hk : k < 9) : tagAt W (y.m k) = some 0 := by obtain ⟨n, _, hm⟩ := (h.kind k hk).map; exact tag_map hm
theorem ScopeAt.tn {k g : Nat} (hk : k < 9) (hg : (y.nv k).ownBlock = some g) : tagAt W g = some (61 + 1) := tag_row (h.kind k hk).row hg
theorem ScopeAt.tl {g : Nat} (hg : y.lv.ownBlock = some g) : tagAt W g = some (9 + 1) := tag_row h.labs hg
end

/-- The labels have changed: the Scope's first block and the labels' row alone. -/
theorem ScopeAt.turn_labels {W w3 : World} {B s : Nat} {y : Lay} {σ : SSt} (h : ScopeAt W B s y σ) (v : Value) (lab : List Nm)
    (hblk : w3.heap[s]? = some (.cells #[.map (some y.a), v] 58 (0, 0)))
    (hrow : w3.ownsRow B 9 1 v lab.length (lab.map str)) (hb : Below B W w3)
    (hfar : ∀ b, b < W.heap.size → b ≠ s → y.lv.ownBlock ≠ some b → w3.heap[b]? = W.heap[b]?) (hv : v.ownBlock = y.lv.ownBlock ∨ v.ownBlock = none ∨ ∃ g, v.ownBlock = some g ∧ W.heap.size ≤ g) :
    ScopeAt w3 B s { y with lv := v } { σ with lab := lab } ∧ Turned W w3 B s y { y with lv := v } := by
  have keep : ∀ b x, b < W.heap.size → tagAt W b = some x → x ≠ 58 + 1 → x ≠ 9 + 1 → w3.heap[b]? = W.heap[b]? := fun b x hl hx h1 h2 =>
    hfar b hl (fun e => absurd rfl (ne_tag hx (e ▸ h.ts) h1)) (fun e => absurd rfl (ne_tag hx (h.tl e) h2))
  refine ⟨⟨hblk, h.map.same (keep _ _ h.map.lt h.ta (by decide) (by decide)), fun k hk => ?_, hrow, h.ls, h.la, h.pinj, h.minj, h.ma, h.rinj⟩, ⟨hb, fun b hl hf => ?_, fun b hf => ?_⟩⟩
  · have hK := h.kind k hk
    obtain ⟨n, _, hm⟩ := hK.map
    exact hK.same (keep _ _ (lt_of_heap hK.blk) (h.tp hk) (by decide) (by decide)) (keep _ _ hm.lt (h.tm hk) (by decide) (by decide)) (fun g hg => keep _ _ (hK.row.lt g hg).2 (h.tn hk hg) (by decide) (by decide))
  · exact hfar b hl (fun e => hf (.inl e)) (fun e => hf (.inr (.inr (.inl e))))
  · rcases hf with hf | hf | hf | hf
    · exact .inl (.inl hf)
    · exact .inl (.inr (.inl hf))
    · rcases hv with e | e | ⟨g, e, hg⟩
      · exact .inl (.inr (.inr (.inl (e ▸ hf))))
      · rw [show ({ y with lv := v } : Lay).lv = v from rfl, e] at hf; cases hf
      · have hf' : v.ownBlock = some b := hf
        rw [e] at hf'
        injection hf' with hf'
        exact .inr (hf' ▸ hg)
    · exact .inl (.inr (.inr (.inr hf)))
theorem own_take {W : World} {base : Nat} {e : TypeId} {A : Option Addr} {n cap : Nat} {xs : List Value} (h : W.ownsRow base e 1 (.slice A n cap) n xs) (m : Nat) (hm : m ≤ n) (h0 : 0 < n) : W.ownsRow base e 1 (.slice A m cap) m (xs.take m) := by
  refine ⟨by have := h.1; simp; omega, ?_⟩
  rcases h.2 with ⟨hv, hn⟩ | ⟨g, cap', cur, hv, h1, h2, h3, h4, h5, h6⟩
  · omega
  · injection hv with hA _ hc
    subst hA hc
    refine .inr ⟨g, cap, cur, rfl, h1, h2, by omega, h4, h5, ?_⟩
    rw [← h6, List.take_take]
    congr 1
    omega
end Go.Proofs.Ytbnddnoognoekaa
