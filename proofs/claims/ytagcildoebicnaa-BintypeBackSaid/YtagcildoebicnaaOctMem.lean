/-
  A Reader and a Writer in memory, nil let in: what the world holds, what keeps it, what a method changes.
-/
import Derived.Test.YtagcildoebicnaaOctPlain
set_option linter.unusedVariables false
namespace Go.Proofs.Ytagcildoebicnaa
open Go.RowKit

/-- The blocks of a Reader or Writer: its own, and that of its slice. -/
def Ft (p v : Value) (b : Nat) : Prop := p = .pointer (some ⟨b, 0, none⟩) ∨ v.ownBlock = some b
/-- A step that changes the blocks F alone; the object's blocks behind it are F'. -/
structure Trn (W W' : World) (B : Nat) (F F' : Nat → Prop) : Prop where
  bel : Below B W W'
  far : ∀ b, b < W.heap.size → ¬ F b → W'.heap[b]? = W.heap[b]?
  new : ∀ b, F' b → F b ∨ W.heap.size ≤ b
theorem Trn.refl {W : World} {B : Nat} {F : Nat → Prop} : Trn W W B F F := ⟨Below.refl _ _, fun _ _ _ => rfl, fun b h => .inl h⟩
theorem Trn.of_below {W W' : World} {B : Nat} {F : Nat → Prop} (hB : B ≤ W.heap.size) (h : Below W.heap.size W W') : Trn W W' B F F :=
  ⟨h.mono hB, fun b hb _ => h.block b hb, fun b h => .inl h⟩
theorem Trn.trans {W W1 W2 : World} {B : Nat} {F F1 F2 : Nat → Prop} (h : Trn W W1 B F F1) (k : Trn W1 W2 B F1 F2) : Trn W W2 B F F2 := by
  have hs := h.bel.size
  refine ⟨h.bel.trans k.bel, fun b hl hf => ?_, fun b hf => ?_⟩
  · rw [k.far b (by omega) (fun hf1 => ?_)]
    · exact h.far b hl hf
    · rcases h.new b hf1 with h1 | h1
      · exact hf h1
      · omega
  · rcases k.new b hf with h1 | h1
    · exact h.new b h1
    · exact .inr (by omega)

theorem lt_of_heap {W : World} {b : Nat} {o : Obj} (h : W.heap[b]? = some o) : b < W.heap.size := by
  by_cases hl : b < W.heap.size
  · exact hl
  · rw [Array.getElem?_eq_none (by omega)] at h; cases h
theorem own_same {W W' : World} {base : Nat} {e : TypeId} {size n : Nat} {v : Value} {xs : List Value} (h : W.ownsRow base e size v n xs) (hb : ∀ g, v.ownBlock = some g → W'.heap[g]? = W.heap[g]?) : W'.ownsRow base e size v n xs := by
  refine ⟨h.1, ?_⟩
  rcases h.2 with hn | ⟨g, cap, cur, rfl, h1, h2, h3⟩
  · exact .inl hn
  · exact .inr ⟨g, cap, cur, rfl, h1, (hb g rfl).trans h2, h3⟩

/-- What a Reader that is there holds. -/
structure RdrIn (W : World) (B g : Nat) (v : Value) (b : List UInt8) (s : Oct.St) : Prop where
  blk : W.heap[g]? = some (.cells #[.bool true, v, .int .i64 (s.at_ : Int), .int .i64 s.err] 98 (0, 0))
  row : W.ownsRow B 5 1 v b.length (rb b)
  lo : B ≤ g
  ne : v.ownBlock ≠ some g
  le : s.at_ ≤ b.length
  big : b.length ≤ 1000000
structure RdrAt (W : World) (B : Nat) (p v : Value) (b : List UInt8) (s : Oct.St) : Prop where
  base : B ≤ W.heap.size
  it : (p = .pointer none ∧ v = .slice none 0 0 ∧ s.err = 2 ∧ s.at_ = 0) ∨ ∃ g, p = .pointer (some ⟨g, 0, none⟩) ∧ RdrIn W B g v b s
structure WrIn (W : World) (B g : Nat) (v : Value) (s : Oct.Wt) : Prop where
  blk : W.heap[g]? = some (.cells #[.bool true, v, .int .i64 s.err] 96 (0, 0))
  row : W.ownsRow B 5 1 v s.b.length (rb s.b)
  lo : B ≤ g
  ne : v.ownBlock ≠ some g
structure WrAt (W : World) (B : Nat) (p v : Value) (s : Oct.Wt) : Prop where
  base : B ≤ W.heap.size
  it : (p = .pointer none ∧ v = .slice none 0 0 ∧ s.err = 2) ∨ ∃ g, p = .pointer (some ⟨g, 0, none⟩) ∧ WrIn W B g v s

theorem RdrIn.keep {W W' : World} {B g : Nat} {v : Value} {b : List UInt8} {s : Oct.St} (h : RdrIn W B g v b s) (hg : W'.heap[g]? = W.heap[g]?) (hv : ∀ k, v.ownBlock = some k → W'.heap[k]? = W.heap[k]?) : RdrIn W' B g v b s :=
  ⟨hg.trans h.blk, own_same h.row hv, h.lo, h.ne, h.le, h.big⟩
theorem WrIn.keep {W W' : World} {B g : Nat} {v : Value} {s : Oct.Wt} (h : WrIn W B g v s) (hg : W'.heap[g]? = W.heap[g]?) (hv : ∀ k, v.ownBlock = some k → W'.heap[k]? = W.heap[k]?) : WrIn W' B g v s :=
  ⟨hg.trans h.blk, own_same h.row hv, h.lo, h.ne⟩
theorem RdrAt.keep {W W' : World} {B : Nat} {p v : Value} {b : List UInt8} {s : Oct.St} (h : RdrAt W B p v b s) (hs : W.heap.size ≤ W'.heap.size) (hf : ∀ k, Ft p v k → W'.heap[k]? = W.heap[k]?) : RdrAt W' B p v b s := by
  refine ⟨Nat.le_trans h.base hs, ?_⟩
  rcases h.it with ⟨rfl, h1⟩ | ⟨g, rfl, hi⟩
  · exact .inl ⟨rfl, h1⟩
  · exact .inr ⟨g, rfl, hi.keep (hf g (.inl rfl)) (fun k hk => hf k (.inr hk))⟩
theorem WrAt.keep {W W' : World} {B : Nat} {p v : Value} {s : Oct.Wt} (h : WrAt W B p v s) (hs : W.heap.size ≤ W'.heap.size) (hf : ∀ k, Ft p v k → W'.heap[k]? = W.heap[k]?) : WrAt W' B p v s := by
  refine ⟨Nat.le_trans h.base hs, ?_⟩
  rcases h.it with ⟨rfl, h1⟩ | ⟨g, rfl, hi⟩
  · exact .inl ⟨rfl, h1⟩
  · exact .inr ⟨g, rfl, hi.keep (hf g (.inl rfl)) (fun k hk => hf k (.inr hk))⟩
theorem RdrAt.ft {W : World} {B : Nat} {p v : Value} {b : List UInt8} {s : Oct.St} (h : RdrAt W B p v b s) {k : Nat} (hk : Ft p v k) : B ≤ k ∧ k < W.heap.size := by
  rcases h.it with ⟨rfl, rfl, h1⟩ | ⟨g, rfl, hi⟩
  · rcases hk with hk | hk
    · injection hk with hk; cases hk
    · cases hk
  · rcases hk with hk | hk
    · injection hk with hk; injection hk with hk; injection hk with hk; subst hk; exact ⟨hi.lo, lt_of_heap hi.blk⟩
    · exact hi.row.lt k hk
theorem WrAt.ft {W : World} {B : Nat} {p v : Value} {s : Oct.Wt} (h : WrAt W B p v s) {k : Nat} (hk : Ft p v k) : B ≤ k ∧ k < W.heap.size := by
  rcases h.it with ⟨rfl, rfl, h1⟩ | ⟨g, rfl, hi⟩
  · rcases hk with hk | hk
    · injection hk with hk; cases hk
    · cases hk
  · rcases hk with hk | hk
    · injection hk with hk; injection hk with hk; injection hk with hk; subst hk; exact ⟨hi.lo, lt_of_heap hi.blk⟩
    · exact hi.row.lt k hk
theorem RdrAt.below {W W' : World} {B : Nat} {p v : Value} {b : List UInt8} {s : Oct.St} (h : RdrAt W B p v b s) (hb : Below W.heap.size W W') : RdrAt W' B p v b s :=
  h.keep hb.size fun k hk => hb.block k (h.ft hk).2
theorem WrAt.below {W W' : World} {B : Nat} {p v : Value} {s : Oct.Wt} (h : WrAt W B p v s) (hb : Below W.heap.size W W') : WrAt W' B p v s :=
  h.keep hb.size fun k hk => hb.block k (h.ft hk).2

/-- What a method of a Reader leaves: the Reader in its new state; nothing else has changed. -/
def RStep (W : World) (B : Nat) (p v : Value) (b : List UInt8) (s' : Oct.St) (w' : World) : Prop := RdrAt w' B p v b s' ∧ Trn W w' B (Ft p v) (Ft p v)
theorem RStep.same {W : World} {B : Nat} {p v : Value} {b : List UInt8} {s : Oct.St} (h : RdrAt W B p v b s) : RStep W B p v b s W := ⟨h, Trn.refl⟩
theorem RStep.below {W w' : World} {B : Nat} {p v : Value} {b : List UInt8} {s : Oct.St} (h : RdrAt W B p v b s) (hb : Below W.heap.size W w') : RStep W B p v b s w' := ⟨h.below hb, Trn.of_below h.base hb⟩
theorem RStep.trans {W W1 W2 : World} {B : Nat} {p v : Value} {b : List UInt8} {s1 s2 : Oct.St} (h : RStep W B p v b s1 W1) (k : RStep W1 B p v b s2 W2) : RStep W B p v b s2 W2 := ⟨k.1, h.2.trans k.2⟩
/-- What a method of a Writer leaves. -/
def WStep (W : World) (B : Nat) (p v : Value) (s' : Oct.Wt) (w' : World) : Prop := ∃ v', WrAt w' B p v' s' ∧ Trn W w' B (Ft p v) (Ft p v')
theorem WStep.same {W : World} {B : Nat} {p v : Value} {s : Oct.Wt} (h : WrAt W B p v s) : WStep W B p v s W := ⟨v, h, Trn.refl⟩
theorem WStep.trans {W W1 W2 : World} {B : Nat} {p v v1 : Value} {s2 : Oct.Wt} (h : Trn W W1 B (Ft p v) (Ft p v1)) (k : WStep W1 B p v1 s2 W2) : WStep W B p v s2 W2 := by
  obtain ⟨v2, h2, t2⟩ := k
  exact ⟨v2, h2, h.trans t2⟩

/-- The Reader's cells set anew. -/
theorem RdrIn.set {W : World} {B g : Nat} {v : Value} {b : List UInt8} {s s' : Oct.St} {w' : World} (h : RdrIn W B g v b s)
    (hb : w'.heap[g]? = some (.cells #[.bool true, v, .int .i64 (s'.at_ : Int), .int .i64 s'.err] 98 (0, 0)))
    (hbe : Below B W w') (hfar : ∀ k, k < W.heap.size → k ≠ g → w'.heap[k]? = W.heap[k]?) (hle : s'.at_ ≤ b.length) : RStep W B (.pointer (some ⟨g, 0, none⟩)) v b s' w' := by
  have hg := lt_of_heap h.blk
  have hlo := h.lo
  have hsz := hbe.size
  refine ⟨⟨by omega, .inr ⟨g, rfl, hb, own_same h.row (fun k hk => hfar k (h.row.lt k hk).2 (fun e => h.ne (e ▸ hk))), h.lo, h.ne, hle, h.big⟩⟩, hbe, fun k hk hf => hfar k hk (fun e => hf (.inl (by rw [e]))), fun k hk => .inl hk⟩
end Go.Proofs.Ytagcildoebicnaa
