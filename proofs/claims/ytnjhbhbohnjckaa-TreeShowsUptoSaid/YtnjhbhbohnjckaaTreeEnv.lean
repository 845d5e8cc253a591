/-
  tree.Parse: the variables that its closures share, and the closure fail.
-/
import Derived.Test.YtnjhbhbohnjckaaTreeOwn
import Derived.Test.YtnjhbhbohnjckaaTokLex
set_option linter.unusedVariables false
set_option linter.unusedSimpArgs false
namespace Go.Proofs.Ytnjhbhbohnjckaa
open Go.RowKit
open Tree (Tr)

theorem at_world {F : World → Prop} {P : Program} {f : FuncId} {args : Array Value} {Wx : World} {Post : Ending → World → Prop} (hf : F Wx) (h : ∀ w, F w → Calls P f args w Post) : Calls P f args Wx Post := h _ hf
theorem at_wpList {F : World → Prop} {P : Program} {ops : Array Oper} {Q : Exit → Act → World → Prop} {rest : List Oper} {a : Act} {Wx : World} (hf : F Wx) (h : ∀ w, F w → wpList P ops Q rest a w) : wpList P ops Q rest a Wx := h _ hf
theorem at_code {F : World → Prop} {P : Program} {c : Code} {Q : Exit → Act → World → Prop} {a : Act} {Wx : World} (hf : F Wx) (h : ∀ w, F w → Code.wp P c Q a w) : Code.wp P c Q a Wx := h _ hf

/-- A variable, as a block of the heap. -/
def Var (w : World) (K : Nat) (cs : Array Value) (t : TypeId) : Prop := w.heap[K]? = some (.cells cs t (0, 0))
section
variable {w w' : World} {K : Nat} {cs : Array Value} {t : TypeId}
theorem Var.cells (h : Var w K cs t) : ∀ o, w.cell? ⟨K, o, none⟩ = cs[o]? := fun o => cell_of_row _ _ _ _ _ _ h
theorem Var.froz (h : Var w K cs t) : ∀ o, w.frozen? ⟨K, o, none⟩ = false := fun o => frozen_of_row _ _ _ _ _ h
theorem Var.lt (h : Var w K cs t) : K < w.heap.size := (Array.getElem?_eq_some_iff.1 h).1
theorem Var.new (W : World) (cs : Array Value) (e : TypeId) : Var (W.alloc (.cells cs e)) W.heap.size cs e := heap_alloc_new W _
theorem Var.below {B : Nat} (h : Var w K cs t) (hb : Below B w w') (hK : K < B) : Var w' K cs t := (hb.block K hK).trans h
theorem Var.alloc (h : Var w K cs t) (o : Obj) : Var (w.alloc o) K cs t := (Below.heap_alloc _ _ _ h.lt).trans h
theorem Var.set (h : Var w K cs t) (o : Nat) (u : Value) : Var (w.setCell ⟨K, o, none⟩ u) K (cs.setIfInBounds o u) t := Go.heap_setCell_same w K o _ _ u h
theorem Var.other (h : Var w K cs t) {K' : Nat} (hne : K ≠ K') (o : Nat) (u : Value) : Var (w.setCell ⟨K', o, none⟩ u) K cs t := (Below.heap_setCell _ _ _ _ hne).trans h
theorem Var.drew (h : Var w K cs t) : Var w.drew K cs t := h
end

/-- What the closures share, from block b on: the tokens, the next index, the error's place and the error, and the two closures. -/
structure Env (w : World) (b gT cT : Nat) (L : List Tok.Tk) (next bad wrong : Int) : Prop where
  l : Var w b #[.slice (some ⟨gT, 0, none⟩) L.length cT] 49
  next : Var w (b + 1) #[.int .i64 next] 3
  bad : Var w (b + 2) #[.int .i64 bad] 3
  wrong : Var w (b + 3) #[.int .i64 wrong] 24
  fail : Var w (b + 4) #[.func (.func 25) #[] #[.pointer (some ⟨b + 3, 0, none⟩), .pointer (some ⟨b + 2, 0, none⟩)]] 52
  nodes : Var w (b + 5) #[.func (.func 26) #[] #[.pointer (some ⟨b + 3, 0, none⟩), .pointer (some ⟨b, 0, none⟩), .pointer (some ⟨b + 1, 0, none⟩), .pointer (some ⟨b + 4, 0, none⟩), .pointer (some ⟨b + 5, 0, none⟩)]] 53
  gb : gT < b
  toks : ∀ (k : Nat) (h : k < L.length), w.cell? ⟨gT, k * 3, none⟩ = some (.int .i64 (L[k].kind : Int)) ∧ w.cell? ⟨gT, k * 3 + 1, none⟩ = some (.int .i64 (L[k].pos : Int)) ∧ w.cell? ⟨gT, k * 3 + 2, none⟩ = some (.string ⟨L[k].text.toArray⟩)

/-- Nothing that was there has changed but the three variables that the closures write. -/
structure Fram (b : Nat) (w w' : World) : Prop where
  bel : Below b w w'
  far : ∀ k, k < w.heap.size → k ≠ b + 1 → k ≠ b + 2 → k ≠ b + 3 → w'.heap[k]? = w.heap[k]?
theorem Fram.refl (b : Nat) (w : World) : Fram b w w := ⟨Below.refl _ _, fun _ _ _ _ _ => rfl⟩
theorem Fram.trans {b : Nat} {w w1 w2 : World} (h : Fram b w w1) (k : Fram b w1 w2) : Fram b w w2 :=
  ⟨h.bel.trans k.bel, fun i hi h1 h2 h3 => (k.far i (Nat.lt_of_lt_of_le hi h.bel.size) h1 h2 h3).trans (h.far i hi h1 h2 h3)⟩
theorem Fram.of_below {b : Nat} {w w' : World} (h : Below w.heap.size w w') (hb : b ≤ w.heap.size) : Fram b w w' := ⟨h.mono hb, fun k hk _ _ _ => h.block k hk⟩
theorem Fram.alloc {b : Nat} {w w' : World} (h : Fram b w w') (hb : b ≤ w'.heap.size) (o : Obj) : Fram b w (w'.alloc o) :=
  ⟨h.bel.alloc hb o, fun k hk h1 h2 h3 => (Below.heap_alloc _ _ _ (Nat.lt_of_lt_of_le hk h.bel.size)).trans (h.far k hk h1 h2 h3)⟩
theorem Fram.drew {b : Nat} {w w' : World} (h : Fram b w w') : Fram b w w'.drew := ⟨h.bel.drew, h.far⟩
theorem Fram.set {b : Nat} {w w' : World} (h : Fram b w w') {g : Nat} (hg : g = b + 1 ∨ g = b + 2 ∨ g = b + 3) (o : Nat) (u : Value) : Fram b w (w'.setCell ⟨g, o, none⟩ u) :=
  ⟨h.bel.setCell (p := ⟨g, o, none⟩) (by show b ≤ g; omega) u, fun k hk h1 h2 h3 => (Below.heap_setCell _ _ _ _ (by show k ≠ g; omega)).trans (h.far k hk h1 h2 h3)⟩
/-- A step above a bound. -/
theorem Fram.step {b B : Nat} {w w1 w2 : World} (h : Fram b w w1) (k : Below B w1 w2) (hB : w.heap.size ≤ B) (hb : b ≤ B) : Fram b w w2 :=
  ⟨h.bel.trans (k.mono hb), fun i hi h1 h2 h3 => (k.block i (Nat.lt_of_lt_of_le hi hB)).trans (h.far i hi h1 h2 h3)⟩

section
variable {w w' : World} {b gT cT : Nat} {L : List Tok.Tk} {next bad wrong : Int}
theorem Env.size (h : Env w b gT cT L next bad wrong) : b + 6 ≤ w.heap.size := h.nodes.lt
theorem Env.below {B : Nat} (h : Env w b gT cT L next bad wrong) (hb : Below B w w') (hB : b + 6 ≤ B) : Env w' b gT cT L next bad wrong where
  l := h.l.below hb (by omega)
  next := h.next.below hb (by omega)
  bad := h.bad.below hb (by omega)
  wrong := h.wrong.below hb (by omega)
  fail := h.fail.below hb (by omega)
  nodes := h.nodes.below hb (by omega)
  gb := h.gb
  toks k hk := by
    have hg : gT < B := by have := h.gb; omega
    have := h.toks k hk
    exact ⟨(hb.cell (p := ⟨gT, k * 3, none⟩) hg).trans this.1, (hb.cell (p := ⟨gT, k * 3 + 1, none⟩) hg).trans this.2.1, (hb.cell (p := ⟨gT, k * 3 + 2, none⟩) hg).trans this.2.2⟩
theorem Env.alloc (h : Env w b gT cT L next bad wrong) (o : Obj) : Env (w.alloc o) b gT cT L next bad wrong :=
  h.below ((Below.refl w.heap.size w).alloc (Nat.le_refl _) o) h.size
theorem Env.drew (h : Env w b gT cT L next bad wrong) : Env w.drew b gT cT L next bad wrong := h.below (B := w.heap.size) (Below.refl _ w).drew h.size
theorem tok_set {g gT : Nat} (hne : gT ≠ g) (o i : Nat) (u : Value) : (w.setCell ⟨g, o, none⟩ u).cell? ⟨gT, i, none⟩ = w.cell? ⟨gT, i, none⟩ := World.cell?_of_block (Below.heap_setCell _ _ _ _ hne)
theorem Env.set_next (h : Env w b gT cT L next bad wrong) (n : Int) : Env (w.setCell ⟨b + 1, 0, none⟩ (.int .i64 n)) b gT cT L n bad wrong where
  l := h.l.other (by omega) _ _
  next := h.next.set 0 _
  bad := h.bad.other (by omega) _ _
  wrong := h.wrong.other (by omega) _ _
  fail := h.fail.other (by omega) _ _
  nodes := h.nodes.other (by omega) _ _
  gb := h.gb
  toks k hk := by have := h.gb; rw [tok_set (by omega), tok_set (by omega), tok_set (by omega)]; exact h.toks k hk
theorem Env.set_bad (h : Env w b gT cT L next bad wrong) (n : Int) : Env (w.setCell ⟨b + 2, 0, none⟩ (.int .i64 n)) b gT cT L next n wrong where
  l := h.l.other (by omega) _ _
  next := h.next.other (by omega) _ _
  bad := h.bad.set 0 _
  wrong := h.wrong.other (by omega) _ _
  fail := h.fail.other (by omega) _ _
  nodes := h.nodes.other (by omega) _ _
  gb := h.gb
  toks k hk := by have := h.gb; rw [tok_set (by omega), tok_set (by omega), tok_set (by omega)]; exact h.toks k hk
theorem Env.set_wrong (h : Env w b gT cT L next bad wrong) (n : Int) : Env (w.setCell ⟨b + 3, 0, none⟩ (.int .i64 n)) b gT cT L next bad n where
  l := h.l.other (by omega) _ _
  next := h.next.other (by omega) _ _
  bad := h.bad.other (by omega) _ _
  wrong := h.wrong.set 0 _
  fail := h.fail.other (by omega) _ _
  nodes := h.nodes.other (by omega) _ _
  gb := h.gb
  toks k hk := by have := h.gb; rw [tok_set (by omega), tok_set (by omega), tok_set (by omega)]; exact h.toks k hk
end

set_option maxHeartbeats 1000000 in
set_option maxRecDepth 100000 in
theorem fail_any {w : World} {b gT cT : Nat} {L : List Tok.Tk} {next bad : Int} (h : Env w b gT cT L next bad 0) (p er : Int) :
    Calls Try.prog 25 #[.int .i64 p, .int .i64 er, .pointer (some ⟨b + 3, 0, none⟩), .pointer (some ⟨b + 2, 0, none⟩)] w fun e w' => e = .returned (.tuple #[]) ∧ Env w' b gT cT L next p er ∧ Fram b w w' ∧ w'.heap.size = w.heap.size := by
  have he := (h.set_bad p).set_wrong er
  have hf := ((Fram.refl b w).set (g := b + 2) (by omega) 0 (.int .i64 p)).set (g := b + 3) (by omega) 0 (.int .i64 er)
  have c3 := h.wrong.cells 0
  have z3 := h.wrong.froz 0
  have c2 := h.bad.cells 0
  have z2 := h.bad.froz 0
  simp only [List.getElem?_toArray, List.getElem?_cons_zero] at c2 c3
  have hne : b + 3 ≠ b + 2 := by omega
  have hne2 : b + 2 ≠ b + 3 := by omega
  clear h
  go_enter Try.func25, Try.ntmps25
  go_wp2
  go_end0
  exact ⟨rfl, he, hf, by simp [World.setCell]⟩
end Go.Proofs.Ytnjhbhbohnjckaa
