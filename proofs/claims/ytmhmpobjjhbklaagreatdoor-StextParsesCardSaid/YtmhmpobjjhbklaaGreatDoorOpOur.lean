/-
  Our opcodes: the rows, and the iterator over all opcodes.
-/
import Derived.Test.YtmhmpobjjhbklaaGreatDoorStLib
import Derived.RangeFuncNested
import Derived.RangeFuncFrom
import Derived.RangeFuncBound
import Derived.RangeFuncCalls
import Derived.RangeFuncLeaves
import Derived.RangeFuncBox
import Derived.Shelf.Abstract
import Derived.Shelf.RegionOpen
import Derived.WalkKit
import Derived.OwnWalkIn
import Derived.TacticsInMore
import Derived.LoopNIn
import Derived.LoopIn
set_option linter.unusedVariables false
set_option linter.unusedSimpArgs false
namespace Go.Proofs.YtmhmpobjjhbklaaGreatDoor
namespace Opc
theorem our_len : ourRows.length = 24 := by decide +kernel
set_option maxRecDepth 100000 in
theorem our_ok : ∀ r ∈ ourRows, 0 ≤ r.1 ∧ r.1 ≤ 100000 ∧ r.2.1.length ≤ 100 ∧ r.2.2.length ≤ 1000 ∧ (Lib.fieldsD r.2.2).length ≤ 100 ∧ ∀ s ∈ Lib.fieldsD r.2.2, s.length ≤ 100 := by decide +kernel
def part (i k : Nat) : List (Int × List UInt8) := (ourRows.take i).flatMap rowOps ++ match ourRows[i]? with | some r => (rowOps r).take k | none => []
theorem part_zero (i : Nat) : part i 0 = (ourRows.take i).flatMap rowOps := by
  unfold part
  rcases ourRows[i]? with _ | r <;> simp
theorem part_next {i : Nat} (h : i < ourRows.length) : part i (rowOps ourRows[i]).length = part (i + 1) 0 := by
  rw [part_zero, part, List.getElem?_eq_getElem h, List.take_succ_eq_append_getElem h]
  simp only [List.take_length, List.flatMap_append, List.flatMap_cons, List.flatMap_nil, List.append_nil]
theorem part_len {i : Nat} : part i 0 <+: all := by
  rw [part_zero, all]
  conv => rhs; rw [← List.take_append_drop i ourRows, List.flatMap_append]
  exact List.prefix_append _ _
theorem part_succ {i k : Nat} (h : i < ourRows.length) {s : List UInt8} (hk : (Lib.fieldsD ourRows[i].2.2)[k]? = some s) : part i (k + 1) = part i k ++ [(ourRows[i].1 + k, ourRows[i].2.1 ++ s)] := by
  have hx : ∀ (f : Int) (hd : List UInt8) (l : List (List UInt8)) (k : Nat) (s : List UInt8), l[k]? = some s → (spread f hd l)[k]? = some (f + k, hd ++ s) := by
    intro f hd l
    induction l generalizing f with
    | nil => intro k s h; simp at h
    | cons a l ih =>
      intro k s h
      cases k with
      | zero => simp at h; subst h; simp [spread]
      | succ k =>
        simp at h
        rw [spread, List.getElem?_cons_succ, ih (f + 1) k s h]
        simp; omega
  have := hx ourRows[i].1 ourRows[i].2.1 _ k s hk
  unfold part
  rw [List.getElem?_eq_getElem h]
  dsimp only
  rw [List.append_assoc]
  congr 1
  have hlt : k < (rowOps ourRows[i]).length := (List.getElem?_eq_some_iff.1 this).1
  rw [List.take_succ_eq_append_getElem hlt]
  congr 2
  exact (List.getElem?_eq_some_iff.1 this).2
theorem part_pre {i k : Nat} (h : i < ourRows.length) : part i k <+: all := by
  refine List.IsPrefix.trans ?_ (part_len (i := i + 1))
  rw [part_zero, part, List.getElem?_eq_getElem h, List.take_succ_eq_append_getElem h, List.flatMap_append]
  dsimp only
  refine List.prefix_append_right_inj _ |>.2 ?_
  simp
  exact List.take_prefix _ _
theorem part_all : part ourRows.length 0 = all := by rw [part_zero, List.take_length, all]
theorem pre_lt {α : Type} {a b : List α} {x : α} (h : a ++ [x] <+: b) : a.length < b.length := by
  have := h.length_le
  simp at this; omega
end Opc
open Go.RowKit Go.Shelf

/-- Whatever cells lay lie as they lay. -/
def KeepC (W W' : World) : Prop := ∀ (b : Nat) (cs : Array Value) (t : TypeId) (f : Nat × Nat), W.heap[b]? = some (.cells cs t f) → W'.heap[b]? = some (.cells cs t f)
theorem KeepC.refl (W : World) : KeepC W W := fun _ _ _ _ h => h
theorem KeepC.trans {A B C : World} (h : KeepC A B) (k : KeepC B C) : KeepC A C := fun b cs t f e => k b cs t f (h b cs t f e)
theorem Below.keepC {W W' : World} (h : Below W.heap.size W W') : KeepC W W' := fun b cs t f e => (h.block b (Array.getElem?_eq_some_iff.1 e).1).trans e
theorem keepC_b {w : World} (W : World) (l : Nat) (o o' : Obj) (_ : w.heap.size ≤ l) (h : W.heap[l]? = some o) (hc : o.isCells = false) (_ : o.isWalk = false) : KeepC W (W.putObj l o') := fun b cs t f e => by
  have hne : b ≠ l := by
    intro hbl; subst hbl
    rw [h] at e; cases e; cases hc
  have hg := grownBy_putObj' W l o'
  exact (hg.block b (Array.getElem?_eq_some_iff.1 e).1 (by simpa using hne)).trans e
theorem KeepC.cell {W W' : World} (h : KeepC W W') {p : Addr} {v : Value} (hc : W.cell? p = some v) : W'.cell? p = some v := by
  unfold World.cell? at hc ⊢
  rcases hb : W.heap[p.block]? with _ | o
  · rw [hb] at hc; simp at hc
  · cases o with
    | cells cs t f => rw [hb] at hc; rw [h _ _ _ _ hb]; exact hc
    | _ => rw [hb] at hc; simp at hc
theorem KeepC.var {W W' : World} (h : KeepC W W') {K : Nat} {cs : Array Value} {t : TypeId} (hv : Var W K cs t) : Var W' K cs t := h _ _ _ _ hv
theorem KeepC.named {W W' : World} (h : KeepC W W') {n : String} {cs : Array Value} (hv : W.var? Tryz.prog n = some cs) : W'.var? Tryz.prog n = some cs := by
  unfold World.var? at *
  cases hg : Tryz.prog.globalNamed n with
  | none => rw [hg] at hv; cases hv
  | some g =>
    rw [hg] at hv
    simp only [Option.bind_some] at hv ⊢
    rcases hb : W.heap[g]? with _ | o
    · rw [hb] at hv; cases hv
    · cases o with
      | cells cs t f => rw [hb] at hv; rw [h _ _ _ _ hb]; exact hv
      | _ => rw [hb] at hv; cases hv
theorem KeepC.glob {W W' : World} (h : KeepC W W') (G : Glob W) : Glob W' := by
  obtain ⟨h1, ⟨t, p, h2⟩, ⟨t', p', h3⟩, h4, h5, m, h6⟩ := G
  refine ⟨h.named h1, ⟨t, p, h.named h2⟩, ⟨t', p', h.named h3⟩, h.named h4, ?_, m, h.cell h6⟩
  obtain ⟨T, oT, R, oR, k1, k2, k3, k4, k5⟩ := h5
  exact ⟨T, oT, R, oR, h.cell k1, h.cell k2, h.cell k3, h.cell k4, fun i hi => h.cell (k5 i hi)⟩
theorem RdS.keepC {α : Type} {w w' : World} {B : Nat} {A : Option Addr} {k : Nat} {enc : α → List Value} {l : List α} (h : RdS w B A k enc l) (hk : KeepC w w') : RdS w' B A k enc l := fun hl => by
  obtain ⟨g, o, e, hb, hc⟩ := h hl
  exact ⟨g, o, e, hb, fun i hi j v hv => hk.cell (hc i hi j v hv)⟩
theorem Below.grown0 {W W' : World} (h : Below W.heap.size W W') : W.grownBy W' none := ⟨h.os, h.tape, h.output, h.size, fun b hb _ => h.block b hb⟩
theorem AbidesFrom.below {β : Type} {B : Nat} {J : β → World → Prop} (h : AbidesFrom B J) {s : β} {W W' : World} (hb : Below W.heap.size W W') (hs : J s W) : J s W' := h s W W' none hs (Below.grown0 hb) (fun r e => by cases e)

def encO (r : Opc.O) : List Value := [.int .i64 r.1, .string ⟨r.2.1.toArray⟩, .string ⟨r.2.2.toArray⟩]
theorem encO_len (r : Opc.O) : (encO r).length = 3 := rfl
set_option maxHeartbeats 4000000 in
set_option maxRecDepth 100000 in
theorem orows_any (w : World) : Calls Tryz.prog 111 #[] w fun e w' => (∃ A, e = .returned (.slice A 24 24) ∧ RdS w' w'.heap.size A 3 encO Opc.ourRows) ∧ Below w.heap.size w w' := by
  go_enter Tryz.func111, Tryz.ntmps111
  go_wp2
  go_ret
  exact ⟨⟨_, rfl, block_rds encO_len (by kernel_rfl) (heap_alloc_new w _)⟩, (Below.refl _ _).alloc (Nat.le_refl _) _⟩

def encP (x : Int × List UInt8) : Array Value := #[.int .i64 x.1, .string ⟨x.2.toArray⟩]
end Go.Proofs.YtmhmpobjjhbklaaGreatDoor
