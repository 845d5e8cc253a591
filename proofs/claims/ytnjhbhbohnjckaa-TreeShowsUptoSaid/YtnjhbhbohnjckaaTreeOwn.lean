/-
  A row of nodes that the call itself has made: its row, and the children in other blocks of the call's own; append of a node to it.
-/
import Derived.Test.YtnjhbhbohnjckaaTreeMem2
import Derived.Deep.AppendLies
set_option linter.unusedVariables false
namespace Go.Proofs.Ytnjhbhbohnjckaa
open Go.RowKit
open Tree (Tr)

/-- The blocks of the call's own but the row itself. -/
def Kids (w : World) (base : Nat) (v : Value) (g : Nat) : Prop := base ≤ g ∧ g < w.heap.size ∧ v.ownBlock ≠ some g
/-- The blocks that came in between. -/
def Fresh (b : Nat) (w : World) (g : Nat) : Prop := b ≤ g ∧ g < w.heap.size
def NRow (w : World) (base : Nat) (e : TypeId) (v : Value) (l : List Tr) : Prop := ∃ vs, w.ownsRow base e 4 v l.length vs ∧ Heads w (Kids w base v) l vs

theorem NRow.nil (w : World) (base : Nat) (e : TypeId) : NRow w base e (.slice none 0 0) [] := ⟨[], World.ownsRow_nil _ _ _ _, rfl⟩
theorem NRow.keep {w w' : World} {base : Nat} {e : TypeId} {v : Value} {l : List Tr} (h : NRow w base e v l) (hs : w.heap.size ≤ w'.heap.size) (hk : ∀ g, base ≤ g → g < w.heap.size → w'.heap[g]? = w.heap[g]?) : NRow w' base e v l := by
  obtain ⟨vs, ho, hh⟩ := h
  refine ⟨vs, ⟨ho.1, ?_⟩, hh.keep (fun g hg => hk g hg.1 hg.2.1) (fun g hg => ⟨hg.1, Nat.lt_of_lt_of_le hg.2.1 hs, hg.2.2⟩)⟩
  rcases ho.2 with h0 | ⟨g, cap, cur, hv, h1, h2, h3⟩
  · exact .inl h0
  · exact .inr ⟨g, cap, cur, hv, h1, (hk g h1 (Array.getElem?_eq_some_iff.1 h2).1).trans h2, h3⟩
theorem NRow.below {w w' : World} {base B : Nat} {e : TypeId} {v : Value} {l : List Tr} (h : NRow w base e v l) (hb : Below B w w') (hB : w.heap.size ≤ B) : NRow w' base e v l :=
  h.keep hb.size fun g _ hg => hb.block g (by omega)
theorem NRow.alloc {w : World} {base : Nat} {e : TypeId} {v : Value} {l : List Tr} (h : NRow w base e v l) (o : Obj) : NRow (w.alloc o) base e v l :=
  h.keep (by simp) fun g _ hg => Below.heap_alloc _ _ _ hg
theorem NRow.drew {w : World} {base : Nat} {e : TypeId} {v : Value} {l : List Tr} (h : NRow w base e v l) : NRow w.drew base e v l := h.keep (Nat.le_refl _) fun _ _ _ => rfl
theorem NRow.lt {w : World} {base : Nat} {e : TypeId} {v : Value} {l : List Tr} (h : NRow w base e v l) : ∀ b, v.ownBlock = some b → base ≤ b ∧ b < w.heap.size := by
  obtain ⟨vs, ho, hh⟩ := h
  exact ho.lt
theorem NRow.slice {w : World} {base : Nat} {e : TypeId} {v : Value} {l : List Tr} (h : NRow w base e v l) : ∃ A c, v = .slice A l.length c ∧ l.length ≤ c ∧ c ≤ maxLen := by
  obtain ⟨vs, ho, hh⟩ := h
  exact own_slice ho
theorem NRow.cap {w : World} {base : Nat} {e : TypeId} {A : Option Addr} {n c : Nat} {l : List Tr} (h : NRow w base e (.slice A n c) l) : n = l.length ∧ l.length ≤ c ∧ c ≤ maxLen := by
  obtain ⟨A', c', he, h1, h2⟩ := h.slice
  injection he with _ e1 e2
  subst e1 e2
  exact ⟨rfl, h1, h2⟩
/-- What the call hands back. -/
theorem NRow.lies {w : World} {base : Nat} {e : TypeId} {A : Option Addr} {n c : Nat} {l : List Tr} (h : NRow w base e (.slice A n c) l) : Lies w (Fresh base w) A l := by
  obtain ⟨vs, ho, hh⟩ := h
  rcases Nat.eq_zero_or_pos l.length with h0 | h0
  · exact .inl (List.eq_nil_of_length_eq_zero h0)
  · obtain ⟨g, cap, hv, hb, hlt⟩ := ho.form h0
    injection hv with hA _ _
    subst hA
    have hlen := ho.1
    refine .inr ⟨g, 0, rfl, ⟨hb, hlt⟩, (hh.keep (S' := Fresh base w) (fun _ _ => rfl) (fun g' hg' => ⟨hg'.1, hg'.2.1⟩)).nodes fun i hi => ?_⟩
    have := ho.cells (g := g) rfl i vs[i] (List.getElem?_eq_getElem hi)
    rw [List.getElem?_eq_getElem hi, ← this]
    congr 1
    unfold Addr.add
    by_cases hi0 : i = 0 <;> simp [hi0]

theorem node_one {k p : Int} {t : List UInt8} {A : Option Addr} {n c : Nat} : ∀ u ∈ [Value.int .i64 k, .int .i64 p, .string ⟨t.toArray⟩, .slice A n c], u.oneCell' = true := by
  intro u hu
  simp at hu
  rcases hu with rfl | rfl | rfl | rfl <;> rfl
theorem grown_row {w w' : World} {base : Nat} {e : TypeId} {v v' : Value} {l : List Tr} {vs : List Value} {k p : Int} {t : List UInt8} {A : Option Addr} {kids : List Tr} {c : Nat} (ho : w.ownsRow base e 4 v l.length vs) (hh : Heads w (Kids w base v) l vs) (hk : Lies w (Kids w base v) A kids) (hc : kids.length ≤ c ∧ c ≤ maxLen)
    (ho' : w'.ownsRow base e 4 v' (l.length + 1) (vs ++ [.int .i64 k, .int .i64 p, .string ⟨t.toArray⟩, .slice A kids.length c])) (hg : w.grownBy w' v.ownBlock) {H : Nat} (hH : w.heap.size ≤ H) (hv : v'.ownBlock = v.ownBlock ∨ v'.ownBlock = some H) (hbase : base ≤ w.heap.size) :
    NRow w' base e v' (l ++ [.mk k p t kids]) ∧ Below base w w' ∧ ∀ g, g < w.heap.size → v.ownBlock ≠ some g → w'.heap[g]? = w.heap[g]? := by
  have hs : ∀ g, Kids w base v g → Kids w' base v' g := fun g hg' => ⟨hg'.1, Nat.lt_of_lt_of_le hg'.2.1 hg.size, by
    rcases hv with hv | hv
    · rw [hv]; exact hg'.2.2
    · rw [hv]; intro e; injection e with e; have := hg'.2.1; omega⟩
  have hkp : ∀ g, Kids w base v g → w'.heap[g]? = w.heap[g]? := fun g hg' => hg.block g hg'.2.1 (fun e => hg'.2.2 e.symm)
  refine ⟨⟨_, ?_, (hh.keep hkp hs).snoc c (hk.keep hkp hs) hc⟩, below_own ho hg hbase, fun g h1 h2 => hg.block g h1 (fun e => h2 e.symm)⟩
  rw [List.length_append, List.length_singleton]
  exact ho'

theorem info_node (e : TypeId) (h : (Try.prog.info? e).map (fun i => (i.zero, i.size, i.bytes)) = some (some (.agg #[.int .i64 0, .int .i64 0, .string ByteArray.empty, .slice none 0 0]), 4, 56)) : ∃ i, Try.prog.info? e = some i ∧ i.zero = some (.agg #[.int .i64 0, .int .i64 0, .string ByteArray.empty, .slice none 0 0]) ∧ i.size = 4 ∧ i.bytes = 56 := info_parts h

/-- append of one node: a plain operation. -/
theorem app_node {ops : Array Oper} {rest : List Oper} {o : Oper} {a : Act} {Q : Exit → Act → World → Prop} (w : World) (hgd : o.guard = none) (s x : Operand) (ty e : TypeId)
    (hop : o.op = .call { callee := .builtin .append, args := #[s, x], argTypes := #[ty, ty] }) (ht : Try.prog.underlying ty = some (.slice e))
    (hin : (Try.prog.info? e).map (fun i => (i.zero, i.size, i.bytes)) = some (some (.agg #[.int .i64 0, .int .i64 0, .string ByteArray.empty, .slice none 0 0]), 4, 56))
    (base : Nat) (v : Value) (l : List Tr) (k p : Int) (t : List UInt8) (A : Option Addr) (kids : List Tr) (c : Nat)
    (hs : a.eval s = v) (hr : NRow w base e v l) (H : Nat) (hH : w.heap.size = H) (hx : a.eval x = .slice (some ⟨H, 0, none⟩) 1 1)
    (hk : Lies w (Kids w base v) A kids) (hc : kids.length ≤ c ∧ c ≤ maxLen) (hn : l.length ≤ 1000000000) (hbase : base ≤ H)
    (h : ∀ A' c' w', NRow w' base e (.slice A' (l.length + 1) c') (l ++ [.mk k p t kids]) → Below base w w' → (∀ g, g < w.heap.size → v.ownBlock ≠ some g → w'.heap[g]? = w.heap[g]?) → wpList Try.prog ops Q rest (a.put o.dst (.slice A' (l.length + 1) c')) w') :
    wpList Try.prog ops Q (o :: rest) a (w.alloc (.cells #[.int .i64 k, .int .i64 p, .string ⟨t.toArray⟩, .slice A kids.length c] e)) := by
  obtain ⟨i0, hi, hz0, hz1, hz2⟩ := info_node e hin
  obtain ⟨vs, ho, hh⟩ := hr
  refine app_one w #[.int .i64 k, .int .i64 p, .string ⟨t.toArray⟩, .slice A kids.length c] hgd s x ty hop base e i0 _ 4 56 ht hi hz0 hz1 hz2 rfl (by omega) rfl node_one v l.length vs hs ho H hH hx (by omega) hn hbase ?_
  intro A' c' w' ho' hg hat
  have := grown_row ho hh hk hc ho' hg (H := H + 1) (by omega) hat (by omega)
  exact h A' c' w' this.1 this.2.1 this.2.2

/-- append of one node: a step of a region that draws its order. -/
theorem step_node {ops : Array Oper} {o : Oper} {a : Act} {K : Act → World → Prop} {Q : Exit → Act → World → Prop} {E : Prop} (w : World) (hgd : o.guard = none) (s x : Operand) (ty e : TypeId)
    (hop : o.op = .call { callee := .builtin .append, args := #[s, x], argTypes := #[ty, ty] }) (ht : Try.prog.underlying ty = some (.slice e))
    (hin : (Try.prog.info? e).map (fun i => (i.zero, i.size, i.bytes)) = some (some (.agg #[.int .i64 0, .int .i64 0, .string ByteArray.empty, .slice none 0 0]), 4, 56))
    (base : Nat) (v : Value) (l : List Tr) (k p : Int) (t : List UInt8) (A : Option Addr) (kids : List Tr) (c : Nat)
    (hs : a.eval s = v) (hr : NRow w base e v l) (H : Nat) (hH : w.heap.size = H) (hx : a.eval x = .slice (some ⟨H, 0, none⟩) 1 1)
    (hk : Lies w (Kids w base v) A kids) (hc : kids.length ≤ c ∧ c ≤ maxLen) (hn : l.length ≤ 1000000000) (hbase : base ≤ H)
    (h : ∀ A' c' w', NRow w' base e (.slice A' (l.length + 1) c') (l ++ [.mk k p t kids]) → Below base w w' → (∀ g, g < w.heap.size → v.ownBlock ≠ some g → w'.heap[g]? = w.heap[g]?) → K (a.put o.dst (.slice A' (l.length + 1) c')) w') :
    if Region.wanted o (yielded ops a.tmps) = true then Oper.wp Try.prog o a (w.alloc (.cells #[.int .i64 k, .int .i64 p, .string ⟨t.toArray⟩, .slice A kids.length c] e)) K Q else E := by
  obtain ⟨i0, hi, hz0, hz1, hz2⟩ := info_node e hin
  obtain ⟨vs, ho, hh⟩ := hr
  subst hH
  refine step_append_lies _ hgd s x ty hop base e i0 _ 4 56 ht hi hz0 hz1 hz2 rfl (by omega) v l.length vs hs (ho.alloc _) ⟨w.heap.size, 0, none⟩ 1 1 [.int .i64 k, .int .i64 p, .string ⟨t.toArray⟩, .slice A kids.length c] hx rfl (World.news_of_block (heap_alloc_new w _)) node_one (by omega) (by unfold maxLen; omega) (by omega) (by simp; omega) (w.heap.size + 1) (by simp) ?_
  intro g cap w' ho' hg hat hlt
  have hat' : Value.ownBlock (.slice (some ⟨g, 0, none⟩) (l.length + 1) cap) = v.ownBlock ∨ Value.ownBlock (.slice (some ⟨g, 0, none⟩) (l.length + 1) cap) = some (w.heap.size + 1) := by
    rcases hat with h0 | h0
    · exact .inl h0.symm
    · exact .inr (by rw [h0]; rfl)
  have := grown_row ho hh hk hc ho' (grown_alloc_first hg) (H := w.heap.size + 1) (by omega) hat' (by omega)
  exact h _ cap w' this.1 this.2.1 this.2.2

/-- The children that a call has handed back. -/
theorem kids_of {w w' : World} {base b : Nat} {e : TypeId} {v : Value} {l : List Tr} {A : Option Addr} {kids : List Tr} (hr : NRow w base e v l) (hb : base ≤ b) (hw : w.heap.size ≤ b) (h : Lies w' (Fresh b w') A kids) : Lies w' (Kids w' base v) A kids :=
  h.keep (fun _ _ => rfl) fun g hg => ⟨Nat.le_trans hb hg.1, hg.2, fun e => by have := (hr.lt g e).2; have := hg.1; omega⟩
theorem kids_of' {w w' : World} {base : Nat} {e : TypeId} {v : Value} {l : List Tr} {A : Option Addr} {kids : List Tr} (hr : NRow w base e v l) (hb : base ≤ w.heap.size) (h : Lies w' (Fresh w.heap.size w') A kids) : Lies w' (Kids w' base v) A kids :=
  kids_of hr hb (Nat.le_refl _) h
end Go.Proofs.Ytnjhbhbohnjckaa
