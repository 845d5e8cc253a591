/-
  A Scope that the call made itself: what the world holds of it, and what keeps it.
-/
import Derived.Test.YtbnddnoognoekaaMapV
set_option linter.unusedVariables false
namespace Go.Proofs.Ytbnddnoognoekaa
open Go.RowKit

abbrev Nm := List UInt8
namespace Sc
/-- The index of a name among the entries; an empty name has none. -/
def find (xs : List Nm) (t : Nm) : Option Nat := if t = [] then none else xs.findIdx? (fun x => x == t)
/-- The named entries. -/
def nms (xs : List Nm) : List (Nat × Nm) := (xs.zipIdx.filter (fun p => p.1 != [])).map (fun p => (p.2, p.1.tail))
theorem nms_nil : nms [] = [] := rfl
theorem nms_empty (xs : List Nm) : nms (xs ++ [[]]) = nms xs := by simp [nms, List.zipIdx_append]
theorem nms_snoc (xs : List Nm) (s : Nm) (h : s ≠ []) : nms (xs ++ [s]) = nms xs ++ [(xs.length, s.tail)] := by
  simp [nms, List.zipIdx_append, h]
theorem nms_len (xs : List Nm) : (nms xs).length ≤ xs.length := by
  unfold nms
  rw [List.length_map]
  exact Nat.le_trans (List.length_filter_le _ _) (by simp)
theorem find_nil (t : Nm) : find [] t = none := by unfold find; split <;> rfl
theorem find_none_empty (xs : List Nm) : find xs [] = none := by simp [find]
theorem find_empty (xs : List Nm) (t : Nm) : find (xs ++ [[]]) t = find xs t := by
  unfold find
  split
  · rfl
  · rename_i h
    rw [List.findIdx?_append]
    have : ([] == t) = false := by cases t <;> simp at h ⊢
    simp [List.findIdx?_cons, this]
theorem find_snoc_same (xs : List Nm) (s : Nm) (h : s ≠ []) (hn : find xs s = none) : find (xs ++ [s]) s = some xs.length := by
  unfold find at hn ⊢
  rw [if_neg h] at hn ⊢
  rw [List.findIdx?_append, hn]
  simp [List.findIdx?_cons]
theorem find_snoc_other (xs : List Nm) (s t : Nm) (h : s ≠ t) : find (xs ++ [s]) t = find xs t := by
  unfold find
  split
  · rfl
  · rw [List.findIdx?_append]
    simp [List.findIdx?_cons, h]
end Sc

/-- A name as a value. -/
def str (s : Nm) : Value := .string ⟨s.toArray⟩
def nmCells (l : List (Nat × Nm)) : List Value := l.flatMap (fun p => [.int .i64 (p.1 : Int), str p.2])
theorem nmCells_len (l : List (Nat × Nm)) : (nmCells l).length = l.length * 2 := by
  induction l with
  | nil => rfl
  | cons p l ih => rw [show nmCells (p :: l) = [.int .i64 (p.1 : Int), str p.2] ++ nmCells l from rfl, List.length_append, ih]; simp; omega
/-- What the map of names holds; what the map of kinds holds. -/
def atF (xs : List Nm) : Lit → Option Value
  | .string t => (Sc.find xs t).map (fun (i : Nat) => Value.int .i64 (i : Int))
  | _ => none
def kindF (p : Nat → Nat) : Lit → Option Value
  | .int .i64 k => if 0 ≤ k ∧ k < 9 then some (.pointer (some ⟨p k.toNat, 0, none⟩)) else none
  | _ => none

structure SSt where
  k : Nat → List Nm
  lab : List Nm
structure Lay where
  a : Nat
  p : Nat → Nat
  m : Nat → Nat
  nv : Nat → Value
  lv : Value
structure KindAt (W : World) (B pk mk : Nat) (nvk : Value) (xs : List Nm) : Prop where
  blk : W.heap[pk]? = some (.cells #[.int .i64 (xs.length : Int), nvk, .map (some mk)] 65 (0, 0))
  map : ∃ n, n ≤ xs.length ∧ MapIs W 9 mk n (atF xs)
  row : W.ownsRow B 61 2 nvk (Sc.nms xs).length (nmCells (Sc.nms xs))
  lp : B ≤ pk
  lm : B ≤ mk
structure ScopeAt (W : World) (B s : Nat) (y : Lay) (σ : SSt) : Prop where
  blk : W.heap[s]? = some (.cells #[.map (some y.a), y.lv] 58 (0, 0))
  map : MapIs W 3 y.a 9 (kindF y.p)
  kind : ∀ k, k < 9 → KindAt W B (y.p k) (y.m k) (y.nv k) (σ.k k)
  labs : W.ownsRow B 9 1 y.lv σ.lab.length (σ.lab.map str)
  ls : B ≤ s
  la : B ≤ y.a
  pinj : ∀ i j, i < 9 → j < 9 → y.p i = y.p j → i = j
  minj : ∀ i j, i < 9 → j < 9 → y.m i = y.m j → i = j
  ma : ∀ k, k < 9 → y.m k ≠ y.a
  rinj : ∀ i j, i < 9 → j < 9 → i ≠ j → ∀ g, (y.nv i).ownBlock = some g → (y.nv j).ownBlock ≠ some g

/-- The blocks of a Scope. -/
def foot (y : Lay) (s b : Nat) : Prop := b = s ∨ b = y.a ∨ y.lv.ownBlock = some b ∨ ∃ k, k < 9 ∧ (b = y.p k ∨ b = y.m k ∨ (y.nv k).ownBlock = some b)

theorem lt_of_heap {W : World} {b : Nat} {o : Obj} (h : W.heap[b]? = some o) : b < W.heap.size := by
  by_cases hl : b < W.heap.size
  · exact hl
  · rw [Array.getElem?_eq_none (by omega)] at h; cases h
theorem own_same {W W' : World} {base : Nat} {e : TypeId} {size n : Nat} {v : Value} {xs : List Value} (h : W.ownsRow base e size v n xs) (hb : ∀ g, v.ownBlock = some g → W'.heap[g]? = W.heap[g]?) : W'.ownsRow base e size v n xs := by
  refine ⟨h.1, ?_⟩
  rcases h.2 with hn | ⟨g, cap, cur, rfl, h1, h2, h3⟩
  · exact .inl hn
  · exact .inr ⟨g, cap, cur, rfl, h1, (hb g rfl).trans h2, h3⟩
theorem KindAt.same {W W' : World} {B pk mk : Nat} {nvk : Value} {xs : List Nm} (h : KindAt W B pk mk nvk xs) (h1 : W'.heap[pk]? = W.heap[pk]?) (h2 : W'.heap[mk]? = W.heap[mk]?) (h3 : ∀ g, nvk.ownBlock = some g → W'.heap[g]? = W.heap[g]?) : KindAt W' B pk mk nvk xs := by
  obtain ⟨n, hn, hm⟩ := h.map
  exact ⟨h1.trans h.blk, ⟨n, hn, hm.same h2⟩, own_same h.row h3, h.lp, h.lm⟩
theorem ScopeAt.same {W W' : World} {B s : Nat} {y : Lay} {σ : SSt} (h : ScopeAt W B s y σ) (hb : ∀ b, foot y s b → W'.heap[b]? = W.heap[b]?) : ScopeAt W' B s y σ :=
  ⟨(hb s (.inl rfl)).trans h.blk, h.map.same (hb _ (.inr (.inl rfl))), fun k hk => (h.kind k hk).same (hb _ (.inr (.inr (.inr ⟨k, hk, .inl rfl⟩)))) (hb _ (.inr (.inr (.inr ⟨k, hk, .inr (.inl rfl)⟩)))) (fun g hg => hb _ (.inr (.inr (.inr ⟨k, hk, .inr (.inr hg)⟩)))),
   own_same h.labs (fun g hg => hb _ (.inr (.inr (.inl hg)))), h.ls, h.la, h.pinj, h.minj, h.ma, h.rinj⟩
theorem ScopeAt.foot_in {W : World} {B s : Nat} {y : Lay} {σ : SSt} (h : ScopeAt W B s y σ) {b : Nat} (hb : foot y s b) : B ≤ b ∧ b < W.heap.size := by
  rcases hb with rfl | rfl | hb | ⟨k, hk, rfl | rfl | hb⟩
  · exact ⟨h.ls, lt_of_heap h.blk⟩
  · exact ⟨h.la, h.map.lt⟩
  · exact h.labs.lt b hb
  · exact ⟨(h.kind k hk).lp, lt_of_heap (h.kind k hk).blk⟩
  · obtain ⟨n, _, hm⟩ := (h.kind k hk).map
    exact ⟨(h.kind k hk).lm, hm.lt⟩
  · exact (h.kind k hk).row.lt b hb
theorem ScopeAt.below {W W' : World} {B s : Nat} {y : Lay} {σ : SSt} (h : ScopeAt W B s y σ) (hb : Below W.heap.size W W') : ScopeAt W' B s y σ :=
  h.same (fun b hf => hb.block b (h.foot_in hf).2)

/-- A change that touches the Scope's own blocks alone. -/
structure Turned (W W' : World) (B s : Nat) (y y' : Lay) : Prop where
  bel : Below B W W'
  far : ∀ b, b < W.heap.size → ¬ foot y s b → W'.heap[b]? = W.heap[b]?
  new : ∀ b, foot y' s b → foot y s b ∨ W.heap.size ≤ b
theorem Turned.of_below {W W' : World} {B s : Nat} {y : Lay} {σ : SSt} (h : ScopeAt W B s y σ) (hb : Below W.heap.size W W') : Turned W W' B s y y :=
  ⟨hb.mono (by have := (h.foot_in (b := s) (.inl rfl)); omega), fun b hl _ => hb.block b hl, fun b hf => .inl hf⟩
theorem Turned.trans {W W1 W2 : World} {B s : Nat} {y y1 y2 : Lay} (h : Turned W W1 B s y y1) (k : Turned W1 W2 B s y1 y2) : Turned W W2 B s y y2 := by
  refine ⟨h.bel.trans k.bel, fun b hl hf => ?_, fun b hf => ?_⟩
  · have hs := h.bel.size
    rw [k.far b (by omega) (fun hf1 => ?_)]
    · exact h.far b hl hf
    · rcases h.new b hf1 with h1 | h1
      · exact hf h1
      · omega
  · have hs := h.bel.size
    rcases k.new b hf with h1 | h1
    · exact h.new b h1
    · exact .inr (by omega)
end Go.Proofs.Ytbnddnoognoekaa
