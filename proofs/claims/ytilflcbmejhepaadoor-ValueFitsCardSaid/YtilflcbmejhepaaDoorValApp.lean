/-
  Layer 27: append of one element, that lies in a block of its own, onto a row of the call's own.
-/
import Derived.Test.YtilflcbmejhepaaDoorValFit
set_option linter.unusedVariables false
set_option linter.unusedSimpArgs false
namespace Go.Proofs.YtilflcbmejhepaaDoor
open Go.RowKit
open Val (V)

theorem block_reads {w : World} {g : Nat} {cs : Array Value} {e : TypeId} (h : w.heap[g]? = some (.cells cs e (0, 0))) : Reads w w.heap.size cs.size (some ⟨g, 0, none⟩) 1 cs.toList := by
  refine ⟨by simp, fun _ => ⟨_, rfl, (Array.getElem?_eq_some_iff.1 h).1, fun j u hu => ?_⟩⟩
  have e1 : (⟨g, 0, none⟩ : Addr).add j = ⟨g, j, none⟩ := by
    unfold Addr.add
    split
    · rename_i hj; subst hj; rfl
    · simp
  rw [e1, cell_of_row _ _ _ _ _ _ h]
  simpa using hu
def vcells (l : List V) : List Value := l.flatMap fun v => [.int .i64 v.t, .int .u64 (v.n : Int)]
theorem vcells_app (a b : List V) : vcells (a ++ b) = vcells a ++ vcells b := by unfold vcells; rw [List.flatMap_append]
theorem ubits_app (a b : List Nat) : ubits (a ++ b) = ubits a ++ ubits b := by unfold ubits; rw [List.map_append]
theorem info_bits : (Tryd.prog.info? 23).map (fun i => (i.zero, i.size, i.bytes)) = some (some (.int .u64 0), 1, 8) := by kernel_rfl
theorem info_value : (Tryd.prog.info? 25).map (fun i => (i.zero, i.size, i.bytes)) = some (some (.agg #[.int .i64 0, .int .u64 0]), 2, 16) := by kernel_rfl

/-- 'append(out, n)'. -/
theorem app_bits {ops : Array Oper} {rest : List Oper} {o : Oper} {a : Act} {Q : Exit → Act → World → Prop} (w : World) (y : Nat) (hgd : o.guard = none) (s x : Operand)
    (ho : o.op = .call { callee := .builtin .append, args := #[s, x], argTypes := #[37, 37] })
    (base : Nat) (v : Value) (n : Nat) (l : List Nat) (hs : a.eval s = v) (hown : w.ownsRow base 23 1 v n (ubits l)) (g : Nat)
    (hx : a.eval x = .slice (some ⟨g, 0, none⟩) 1 1) (hb : w.heap[g]? = some (.cells #[.int .u64 (y : Int)] 23 (0, 0))) (hlen : n ≤ 1000000000) (hbase : base ≤ w.heap.size)
    (h : ∀ A' c' w', w'.ownsRow base 23 1 (.slice A' (n + 1) c') (n + 1) (ubits (l ++ [y])) → w.grownBy w' v.ownBlock →
      wpList Tryd.prog ops Q rest (a.put o.dst (.slice A' (n + 1) c')) w') : wpList Tryd.prog ops Q (o :: rest) a w := by
  obtain ⟨i0, hi0, hz0, hz1, hz2⟩ := info_parts info_bits
  refine wpList_append_any _ hgd s x 37 ho base 23 i0 _ 1 8 Tryd.underlying37 hi0 hz0 hz1 hz2 rfl (by omega) v n (ubits l) hs hown w.heap.size _ 1 1 [.int .u64 (y : Int)] hx (block_reads hb) (by simp; rfl) (by unfold maxLen; omega) (by omega) hbase ?_
  intro v' w' h1 h2 h3
  obtain ⟨A', c', rfl, _, _⟩ := own_slice h1
  exact h A' c' w' (by rw [ubits_app]; exact h1) h2
/-- 'append(out, v)'. -/
theorem app_value {ops : Array Oper} {rest : List Oper} {o : Oper} {a : Act} {Q : Exit → Act → World → Prop} (w : World) (y : V) (hgd : o.guard = none) (s x : Operand)
    (ho : o.op = .call { callee := .builtin .append, args := #[s, x], argTypes := #[35, 35] })
    (base : Nat) (v : Value) (n : Nat) (l : List V) (hs : a.eval s = v) (hown : w.ownsRow base 25 2 v n (vcells l)) (g : Nat)
    (hx : a.eval x = .slice (some ⟨g, 0, none⟩) 1 1) (hb : w.heap[g]? = some (.cells #[.int .i64 y.t, .int .u64 (y.n : Int)] 25 (0, 0))) (hlen : n ≤ 1000000000) (hbase : base ≤ w.heap.size)
    (h : ∀ A' c' w', w'.ownsRow base 25 2 (.slice A' (n + 1) c') (n + 1) (vcells (l ++ [y])) → w.grownBy w' v.ownBlock →
      wpList Tryd.prog ops Q rest (a.put o.dst (.slice A' (n + 1) c')) w') : wpList Tryd.prog ops Q (o :: rest) a w := by
  obtain ⟨i0, hi0, hz0, hz1, hz2⟩ := info_parts info_value
  refine wpList_append_any _ hgd s x 35 ho base 25 i0 _ 2 16 Tryd.underlying35 hi0 hz0 hz1 hz2 rfl (by omega) v n (vcells l) hs hown w.heap.size _ 1 1 [.int .i64 y.t, .int .u64 (y.n : Int)] hx (block_reads hb) (by simp [Value.oneCell']) (by unfold maxLen; omega) (by omega) hbase ?_
  intro v' w' h1 h2 h3
  obtain ⟨A', c', rfl, _, _⟩ := own_slice h1
  exact h A' c' w' (by rw [vcells_app]; exact h1) h2
end Go.Proofs.YtilflcbmejhepaaDoor
