/-
  Layer 40: The program's parser: its state, the first lines, the lines of a block.
-/
import Derived.Test.YtmhmpobjjhbklaaGreatDoorSO7
import Derived.Test.YtmhmpobjjhbklaaGreatDoorTk
set_option linter.unusedVariables false
set_option linter.unusedSimpArgs false
namespace Go.Proofs.YtmhmpobjjhbklaaGreatDoor
namespace St
/-- A block, with where its parts lie. -/
structure BV where
  params : List Int
  Ap : Option Addr
  cp : Nat
  ins : List Ins
  Ai : Option Addr
  ci : Nat
  fin : Fin
  Aa : Option Addr
  ca : Nat
  At : Option Addr
  ct : Nat
def BV.blk (b : BV) : Blk := ⟨b.params, b.ins, b.fin⟩
def fin0z : Fin := ⟨0, 0, [], [], 0⟩
end St
open Go.RowKit
open St (InR BV)
def encB (b : BV) : List Value := [.slice b.Ap b.params.length b.cp, .slice b.Ai b.ins.length b.ci, .int .i64 b.fin.kind, .int .i64 b.fin.cond, .slice b.Aa b.fin.args.length b.ca, .slice b.At b.fin.edges.length b.ct, .int .i64 b.fin.trap]
theorem encB_len (b : BV) : (encB b).length = 7 := rfl
theorem encB_one (b : BV) : ∀ u ∈ encB b, u.oneCell' = true := by simp [encB, Value.oneCell']
abbrev IV := St.Ins × (Option Addr × Nat) × Option Addr × Nat
def encI (v : IV) : List Value := (insC v.1 v.2.1.1 v.2.1.2 v.2.2.1 v.2.2.2).toList
theorem encI_len (v : IV) : (encI v).length = 7 := rfl
theorem encI_one (v : IV) : ∀ u ∈ encI v, u.oneCell' = true := by simp [encI, insC, Value.oneCell']
/-- What a block's parts hold, in blocks of S. -/
structure BC (S : Nat → Prop) (W : World) (b : BV) : Prop where
  p : RdZ W S b.Ap b.params
  i : RdT W S b.Ai 7 (InsAt S) b.ins
  a : RdZ W S b.Aa b.fin.args
  e : RdT W S b.At 2 (EdgeAt S) b.fin.edges
structure IC (S : Nat → Prop) (W : World) (v : IV) : Prop where
  a : RdZ W S v.2.1.1 v.1.args
  o : RdZ W S v.2.2.1 v.1.outs
section
variable {S S' : Nat → Prop} {W W' : World}
theorem BC.keep {b : BV} (h : BC S W b) (hk : Keep S W W') (hs : W.heap.size ≤ W'.heap.size) : BC S W' b :=
  ⟨h.p.keep hk hs, h.i.keep (fun g o x hs' hx => InsAt.keep hk hs g o x hs' hx) hs, h.a.keep hk hs, h.e.keep (fun g o x hs' hx => EdgeAt.keep hk hs g o x hs' hx) hs⟩
theorem IC.keep {v : IV} (h : IC S W v) (hk : Keep S W W') (hs : W.heap.size ≤ W'.heap.size) : IC S W' v := ⟨h.a.keep hk hs, h.o.keep hk hs⟩
theorem EdgeAt.mono (hS : ∀ g, g < W.heap.size → S g → S' g) (g o : Nat) (e : St.Edge) (h : EdgeAt S W g o e) : EdgeAt S' W g o e := by
  obtain ⟨h1, A, c, h2, h3⟩ := h
  exact ⟨h1, A, c, h2, h3.mono hS⟩
theorem InsAt.mono (hS : ∀ g, g < W.heap.size → S g → S' g) (g o : Nat) (e : St.Ins) (h : InsAt S W g o e) : InsAt S' W g o e := by
  obtain ⟨h1, h2, h3, h4, h5, ⟨A, c, h6, h7⟩, B, d, h8, h9⟩ := h
  exact ⟨h1, h2, h3, h4, h5, ⟨A, c, h6, h7.mono hS⟩, B, d, h8, h9.mono hS⟩
theorem BC.mono {b : BV} (h : BC S W b) (hS : ∀ g, g < W.heap.size → S g → S' g) : BC S' W b :=
  ⟨h.p.mono hS, RdT.mono h.i hS (InsAt.mono hS), h.a.mono hS, RdT.mono h.e hS (EdgeAt.mono hS)⟩
theorem IC.mono {v : IV} (h : IC S W v) (hS : ∀ g, g < W.heap.size → S g → S' g) : IC S' W v := ⟨h.a.mono hS, h.o.mono hS⟩
end
/-- 'append(out, l...)', with the block that the row lies in. -/
theorem app_rs2 {α : Type} {enc : α → List Value} {k bytes : Nat} {t e : TypeId} {z : Value} {i0 : TypeInfo} (hu : Tryz.prog.underlying t = some (.slice e)) (hi : Tryz.prog.info? e = some i0) (hz0 : i0.zero = some z) (hz1 : i0.size = k) (hz2 : i0.bytes = bytes) (hzs : z.cells.size = k) (hk0 : 0 < k)
    (hk : ∀ x, (enc x).length = k) (h1 : ∀ x, ∀ u ∈ enc x, u.oneCell' = true)
    {ops : Array Oper} {rest : List Oper} {o : Oper} {a : Act} {Q : Exit → Act → World → Prop} (w : World) (hgd : o.guard = none) (s x : Operand)
    (ho : o.op = .call { callee := .builtin .append, args := #[s, x], argTypes := #[t, t] })
    (base : Nat) (v : Value) (n : Nat) (l : List α) (hs : a.eval s = v) (hown : w.ownsRow base e k v n (l.flatMap enc)) (m : List α) (M c : Nat) (A : Option Addr) (hM : m.length = M)
    (hx : a.eval x = .slice A M c) (hrd : Reads w w.heap.size k A M (m.flatMap enc)) (hlen : n + M ≤ 1000000000) (hby : bytes ≤ 1000) (hbase : base ≤ w.heap.size)
    (h : ∀ A' c' w', w'.ownsRow base e k (.slice A' (n + M) c') (n + M) ((l ++ m).flatMap enc) → w.grownBy w' v.ownBlock → ((Value.slice A' (n + M) c').ownBlock = v.ownBlock ∨ (Value.slice A' (n + M) c').ownBlock = some w.heap.size) →
      wpList Tryz.prog ops Q rest (a.put o.dst (.slice A' (n + M) c')) w') : wpList Tryz.prog ops Q (o :: rest) a w := by
  subst hM
  refine wpList_append_any _ hgd s x t ho base e i0 z k bytes hu hi hz0 hz1 hz2 hzs hk0 v n (l.flatMap enc) hs hown w.heap.size A m.length c (m.flatMap enc) hx hrd (flat_one h1 m) (by unfold maxLen; omega) ?_ hbase ?_
  · have := Nat.mul_le_mul hlen hby
    omega
  · intro v' w' h1 h2 h3
    obtain ⟨A', c', rfl, _, _⟩ := own_slice h1
    exact h A' c' w' (by rw [List.flatMap_append]; exact h1) h2 h3
theorem step_app2 {α : Type} {enc : α → List Value} {k bytes : Nat} {t e : TypeId} {z : Value} {i0 : TypeInfo} (hu : Tryz.prog.underlying t = some (.slice e)) (hi : Tryz.prog.info? e = some i0) (hz0 : i0.zero = some z) (hz1 : i0.size = k) (hz2 : i0.bytes = bytes) (hzs : z.cells.size = k) (hk0 : 0 < k)
    (hk : ∀ x, (enc x).length = k) (h1 : ∀ x, ∀ u ∈ enc x, u.oneCell' = true)
    {ops : Array Oper} {o : Oper} {a : Act} {K : Act → World → Prop} {Q : Exit → Act → World → Prop} {E : Prop} (w : World) (hgd : o.guard = none) (s x : Operand)
    (ho : o.op = .call { callee := .builtin .append, args := #[s, x], argTypes := #[t, t] })
    (base : Nat) (v : Value) (n : Nat) (l : List α) (hs : a.eval s = v) (hown : w.ownsRow base e k v n (l.flatMap enc)) (m : List α) (M c : Nat) (A : Option Addr) (hM : m.length = M)
    (hx : a.eval x = .slice A M c) (hrd : Reads w w.heap.size k A M (m.flatMap enc)) (hlen : n + M ≤ 1000000000) (hby : bytes ≤ 1000) (hbase : base ≤ w.heap.size)
    (h : ∀ A' c' w', w'.ownsRow base e k (.slice A' (n + M) c') (n + M) ((l ++ m).flatMap enc) → w.grownBy w' v.ownBlock → ((Value.slice A' (n + M) c').ownBlock = v.ownBlock ∨ (Value.slice A' (n + M) c').ownBlock = some w.heap.size) → K (a.put o.dst (.slice A' (n + M) c')) w') :
    if Region.wanted o (yielded ops a.tmps) = true then Oper.wp Tryz.prog o a w K Q else E := by
  subst hM
  have hw : Region.wanted o (yielded ops a.tmps) = true := by simp [Region.wanted, hgd]
  rw [if_pos hw]
  refine wp_append_any w s x t ho base e i0 z k bytes hu hi hz0 hz1 hz2 hzs hk0 v n (l.flatMap enc) hs hown w.heap.size A m.length c (m.flatMap enc) hx hrd (flat_one h1 m) (by unfold maxLen; omega) ?_ hbase ?_
  · have := Nat.mul_le_mul hlen hby
    omega
  · intro v' w' h1 h2 h3
    obtain ⟨A', c', rfl, _, _⟩ := own_slice h1
    exact h A' c' w' (by rw [List.flatMap_append]; exact h1) h2 h3
/-- A cell of a row of the call's own is written. -/
theorem own_set {W : World} {base n k c g i : Nat} {xs : List Value} {e : TypeId} (h : W.ownsRow base e k (.slice (some ⟨g, 0, none⟩) n c) n xs) (hi : i < xs.length) (u : Value) : (W.setCell ⟨g, i, none⟩ u).ownsRow base e k (.slice (some ⟨g, 0, none⟩) n c) n (xs.set i u) := by
  obtain ⟨h1, h2⟩ := h
  refine ⟨by rw [List.length_set]; exact h1, ?_⟩
  rcases h2 with ⟨h2, _⟩ | ⟨g', cap, cur, hv, hb, hh, hn, hm, hz, ht⟩
  · cases h2
  · injection hv with hv _ hc
    injection hv with hv
    injection hv with hv
    subst hv hc
    refine .inr ⟨g, c, cur.setIfInBounds i u, rfl, hb, Go.heap_setCell_same W g i _ _ u hh, hn, hm, by simpa using hz, ?_⟩
    rw [Array.toList_setIfInBounds, List.take_set, ht]
theorem own_cells {W : World} {base n k c : Nat} {A : Option Addr} {xs : List Value} {e : TypeId} (h : W.ownsRow base e k (.slice A n c) n xs) {i : Nat} (hi : i < xs.length) : ∃ g, A = some ⟨g, 0, none⟩ ∧ base ≤ g ∧ g < W.heap.size ∧ W.cell? ⟨g, i, none⟩ = some xs[i] ∧ W.frozen? ⟨g, i, none⟩ = false := by
  obtain ⟨h1, h2⟩ := h
  rcases h2 with ⟨h2, h3⟩ | ⟨g, cap, cur, hv, hb, hh, hn, hm, hz, ht⟩
  · rw [h3] at h1; simp at h1; rw [h1] at hi; simp at hi
  · injection hv with hv _ hc
    refine ⟨g, hv, hb, (Array.getElem?_eq_some_iff.1 hh).1, ?_, frozen_of_row _ _ _ _ _ hh⟩
    rw [cell_of_row _ _ _ _ _ _ hh, ← Array.getElem?_toList]
    have : (cur.toList.take (n * k))[i]? = some xs[i] := by rw [ht]; exact List.getElem?_eq_getElem hi
    rw [List.getElem?_take_of_lt (by rw [← h1]; exact hi)] at this
    exact this
theorem flat_last {α : Type} {enc : α → List Value} {k : Nat} (hk : ∀ x, (enc x).length = k) (L : List α) (b : α) (j : Nat) (u : Value) : ((L ++ [b]).flatMap enc).set (L.length * k + j) u = L.flatMap enc ++ (enc b).set j u := by
  have hl := flat_len hk L
  rw [List.flatMap_append, List.flatMap_cons, List.flatMap_nil, List.append_nil, List.set_append_right _ _ (by omega)]
  congr 2; omega
end Go.Proofs.YtmhmpobjjhbklaaGreatDoor
set_option linter.unusedVariables false
set_option linter.unusedSimpArgs false
namespace Go.Proofs.YtmhmpobjjhbklaaGreatDoor
open Go.RowKit
open St (InR BV)
def prC (P : Option Addr) (np c1 : Nat) (R : Option Addr) (nr c2 : Nat) (V : Option Addr) (nv c3 : Nat) (B : Option Addr) (nb d : Nat) (n : Int) (op : Bool) : Array Value := #[.slice P np c1, .slice R nr c2, .slice V nv c3, .slice B nb d, .int .i64 n, .bool op]
structure PAt (w0 W : World) (Kp : Nat) (S : Nat → Prop) (P : Option Addr) (c1 : Nat) (R : Option Addr) (c2 : Nat) (V : Option Addr) (c3 : Nat) (B : Option Addr) (d : Nat) (ps rs vals : List Int) (L : List BV) (n : Int) (op : Bool) : Prop where
  bel : Below w0.heap.size w0 W
  lo : w0.heap.size ≤ Kp
  cell : Var W Kp (prC P ps.length c1 R rs.length c2 V vals.length c3 B L.length d n op) 65
  tps : RdZ W S P ps
  trs : RdZ W S R rs
  tvs : RdZ W S V vals
  own : W.ownsRow (Kp + 1) 44 7 (.slice B L.length d) L.length (L.flatMap encB)
  sS : ∀ g, S g → g < W.heap.size ∧ Kp < g ∧ (Value.slice B L.length d).ownBlock ≠ some g
section
variable {w0 W W' : World} {Kp : Nat} {S : Nat → Prop} {P R V B : Option Addr} {c1 c2 c3 d : Nat} {ps rs vals : List Int} {L : List BV} {n : Int} {op : Bool}
theorem PAt.lt (h : PAt w0 W Kp S P c1 R c2 V c3 B d ps rs vals L n op) : Kp < W.heap.size := h.cell.lt
theorem PAt.ownlt (h : PAt w0 W Kp S P c1 R c2 V c3 B d ps rs vals L n op) : ∀ j, (Value.slice B L.length d).ownBlock = some j → j < W.heap.size := fun j hj => (h.own.lt j hj).2
theorem PAt.below (h : PAt w0 W Kp S P c1 R c2 V c3 B d ps rs vals L n op) (hb : Below W.heap.size W W') : PAt w0 W' Kp S P c1 R c2 V c3 B d ps rs vals L n op :=
  ⟨h.bel.trans (hb.mono h.bel.size), h.lo, var_keep h.cell hb, h.tps.on hb, h.trs.on hb, h.tvs.on hb, own_belowW h.own hb, fun g hg => ⟨Nat.lt_of_lt_of_le (h.sS g hg).1 hb.size, (h.sS g hg).2⟩⟩
theorem PAt.keepK (h : PAt w0 W Kp S P c1 R c2 V c3 B d ps rs vals L n op) (hg : W.grownBy W' (some Kp)) : Keep S W W' := keep_grown hg (fun hs => Nat.lt_irrefl _ (h.sS _ hs).2.1)
theorem PAt.keepB (h : PAt w0 W Kp S P c1 R c2 V c3 B d ps rs vals L n op) (hg : W.grownBy W' (Value.slice B L.length d).ownBlock) : Keep S W W' := fun p v hs hc => hg.cell hc (fun e => (h.sS _ hs).2.2 e.symm)
/-- New blocks join S. -/
theorem PAt.more (h : PAt w0 W Kp S P c1 R c2 V c3 B d ps rs vals L n op) {N : Nat} (hK : Kp < N) (hN : ∀ j, (Value.slice B L.length d).ownBlock = some j → j < N) : PAt w0 W Kp (fun g => S g ∨ (N ≤ g ∧ g < W.heap.size)) P c1 R c2 V c3 B d ps rs vals L n op :=
  ⟨h.bel, h.lo, h.cell, h.tps.mono fun _ _ hs => .inl hs, h.trs.mono fun _ _ hs => .inl hs, h.tvs.mono fun _ _ hs => .inl hs, h.own, fun g hg => by
    rcases hg with hg | ⟨h1, h2⟩
    · exact h.sS g hg
    · exact ⟨h2, by omega, fun e => by have := hN g e; omega⟩⟩
theorem new_rdz {N : Nat} {A : Option Addr} {l : List Int} (h : RdZ W (fun g => N ≤ g) A l) (S : Nat → Prop) : RdZ W (fun g => S g ∨ (N ≤ g ∧ g < W.heap.size)) A l := h.mono fun g h1 h2 => .inr ⟨h2, h1⟩
/-- A write into the parser's own cells. -/
theorem PAt.put (h : PAt w0 W Kp S P c1 R c2 V c3 B d ps rs vals L n op) {cs : Array Value} {P' R' V' : Option Addr} {c1' c2' c3' : Nat} {ps' rs' vals' : List Int} {n' : Int} {op' : Bool} (hv : Var W' Kp cs 65) (hg : W.grownBy W' (some Kp))
    (hcs : cs = prC P' ps'.length c1' R' rs'.length c2' V' vals'.length c3' B L.length d n' op') (h1 : RdZ W S P' ps') (h2 : RdZ W S R' rs') (h3 : RdZ W S V' vals') : PAt w0 W' Kp S P' c1' R' c2' V' c3' B d ps' rs' vals' L n' op' := by
  subst hcs
  have hk := h.keepK hg
  exact ⟨below_grown h.bel hg h.bel.size h.lo, h.lo, hv, h1.keep hk hg.size, h2.keep hk hg.size, h3.keep hk hg.size, own_stay h.own hg (by omega), fun g hs => ⟨Nat.lt_of_lt_of_le (h.sS g hs).1 hg.size, (h.sS g hs).2⟩⟩
theorem PAt.setN (h : PAt w0 W Kp S P c1 R c2 V c3 B d ps rs vals L n op) (m : Int) : PAt w0 (W.setCell ⟨Kp, 4, none⟩ (.int .i64 m)) Kp S P c1 R c2 V c3 B d ps rs vals L m op :=
  h.put (h.cell.set 4 _) (grown_set _ _ _ _) (by simp [prC]) h.tps h.trs h.tvs
theorem PAt.setOpen (h : PAt w0 W Kp S P c1 R c2 V c3 B d ps rs vals L n op) (b : Bool) : PAt w0 (W.setCell ⟨Kp, 5, none⟩ (.bool b)) Kp S P c1 R c2 V c3 B d ps rs vals L n b :=
  h.put (h.cell.set 5 _) (grown_set _ _ _ _) (by simp [prC]) h.tps h.trs h.tvs
theorem PAt.setType (h : PAt w0 W Kp S P c1 R c2 V c3 B d ps rs vals L n op) {A C : Option Addr} {a c : Nat} {l m : List Int} (h1 : RdZ W S A l) (h2 : RdZ W S C m) : PAt w0 ((W.setCell ⟨Kp, 0, none⟩ (.slice A l.length a)).setCell ⟨Kp, 1, none⟩ (.slice C m.length c)) Kp S A a C c V c3 B d l m vals L n op :=
  h.put ((h.cell.set 0 _).set 1 _) ((grown_set _ _ _ _).trans (grown_set _ _ _ _)) (by simp [prC]) h1 h2 h.tvs
theorem PAt.setVals (h : PAt w0 W Kp S P c1 R c2 V c3 B d ps rs vals L n op) {A : Option Addr} {a : Nat} {l : List Int} (h1 : RdZ W S A l) : PAt w0 (W.setCell ⟨Kp, 2, none⟩ (.slice A l.length a)) Kp S P c1 R c2 A a B d ps rs l L n op :=
  h.put (h.cell.set 2 _) (grown_set _ _ _ _) (by simp [prC]) h.tps h.trs h1
theorem PAt.cells (h : PAt w0 W Kp S P c1 R c2 V c3 B d ps rs vals L n op) : (W.cell? ⟨Kp, 0, none⟩ = some (.slice P ps.length c1) ∧ W.cell? ⟨Kp, 1, none⟩ = some (.slice R rs.length c2) ∧ W.cell? ⟨Kp, 2, none⟩ = some (.slice V vals.length c3) ∧ W.cell? ⟨Kp, 3, none⟩ = some (.slice B L.length d) ∧ W.cell? ⟨Kp, 4, none⟩ = some (.int .i64 n) ∧ W.cell? ⟨Kp, 5, none⟩ = some (.bool op)) ∧ ∀ i, W.frozen? ⟨Kp, i, none⟩ = false :=
  ⟨⟨h.cell.cells 0, h.cell.cells 1, h.cell.cells 2, h.cell.cells 3, h.cell.cells 4, h.cell.cells 5⟩, h.cell.froz⟩
/-- A block appended to the row of blocks, and the slice stored. -/
theorem PAt.app (h : PAt w0 W Kp S P c1 R c2 V c3 B d ps rs vals L n op) {b : BV} {B' : Option Addr} {d' : Nat} (own : W'.ownsRow (Kp + 1) 44 7 (.slice B' (L.length + 1) d') (L.length + 1) ((L ++ [b]).flatMap encB)) (hg : W.grownBy W' (Value.slice B L.length d).ownBlock)
    (hb : (Value.slice B' (L.length + 1) d').ownBlock = (Value.slice B L.length d).ownBlock ∨ (Value.slice B' (L.length + 1) d').ownBlock = some W.heap.size) :
    PAt w0 (W'.setCell ⟨Kp, 3, none⟩ (.slice B' (L.length + 1) d')) Kp S P c1 R c2 V c3 B' d' ps rs vals (L ++ [b]) n op ∧ Keep S W (W'.setCell ⟨Kp, 3, none⟩ (.slice B' (L.length + 1) d')) ∧ W.heap.size ≤ (W'.setCell ⟨Kp, 3, none⟩ (.slice B' (L.length + 1) d')).heap.size := by
  have hv := var_grown h.cell h.own (by decide) hg
  have gs := grown_set W' Kp 3 (.slice B' (L.length + 1) d')
  have hk : Keep S W (W'.setCell ⟨Kp, 3, none⟩ (.slice B' (L.length + 1) d')) := (h.keepB hg).trans (keep_grown gs (fun hs => Nat.lt_irrefl _ (h.sS _ hs).2.1))
  have hsz : W.heap.size ≤ (W'.setCell ⟨Kp, 3, none⟩ (.slice B' (L.length + 1) d')).heap.size := Nat.le_trans hg.size gs.size
  have hbel : Below w0.heap.size w0 W' := h.bel.grown hg h.bel.size (fun j hj => by have := (h.own.lt j hj).1; have := h.lo; omega)
  have hl : (L ++ [b]).length = L.length + 1 := by simp
  refine ⟨⟨below_grown hbel gs hbel.size h.lo, h.lo, ?_, h.tps.keep hk hsz, h.trs.keep hk hsz, h.tvs.keep hk hsz, ?_, ?_⟩, hk, hsz⟩
  · rw [hl]; simpa [prC] using hv.set 3 (.slice B' (L.length + 1) d')
  · rw [hl]; exact own_stay own gs (by omega)
  · intro g hs
    obtain ⟨h1, h2, h3⟩ := h.sS g hs
    refine ⟨Nat.lt_of_lt_of_le h1 hsz, h2, ?_⟩
    rw [hl]
    rcases hb with hb | hb
    · rw [hb]; exact h3
    · rw [hb]; intro e; injection e with e; omega
end
/-- The parser between two blocks. -/
def PCl (w0 W : World) (Kp : Nat) (x : St.Ssa) (n : Int) : Prop := ∃ (S : Nat → Prop) (P : Option Addr) (c1 : Nat) (R : Option Addr) (c2 : Nat) (V : Option Addr) (c3 : Nat) (B : Option Addr) (d : Nat) (L : List BV), PAt w0 W Kp S P c1 R c2 V c3 B d x.ps x.rs x.vals L n false ∧ L.map St.BV.blk = x.blocks ∧ ∀ b ∈ L, BC S W b
/-- The parser inside a block. -/
def POp (w0 W : World) (Kp : Nat) (x : St.Ssa) (params : List Int) (ins : List St.Ins) (n : Int) : Prop := ∃ (S : Nat → Prop) (P : Option Addr) (c1 : Nat) (R : Option Addr) (c2 : Nat) (V : Option Addr) (c3 : Nat) (B : Option Addr) (d : Nat) (L : List BV) (cur : BV) (M : List IV), PAt w0 W Kp S P c1 R c2 V c3 B d x.ps x.rs x.vals (L ++ [cur]) n true ∧ L.map St.BV.blk = x.blocks ∧ (∀ b ∈ L, BC S W b) ∧
  cur.params = params ∧ cur.ins = ins ∧ cur.fin = St.fin0z ∧ cur.Aa = none ∧ cur.ca = 0 ∧ cur.At = none ∧ cur.ct = 0 ∧ RdZ W S cur.Ap params ∧
  M.map Prod.fst = ins ∧ W.ownsRow (Kp + 1) 48 7 (.slice cur.Ai ins.length cur.ci) ins.length (M.flatMap encI) ∧ (∀ v ∈ M, IC S W v) ∧ ∀ g, S g → (Value.slice cur.Ai ins.length cur.ci).ownBlock ≠ some g
end Go.Proofs.YtmhmpobjjhbklaaGreatDoor
set_option linter.unusedVariables false
set_option linter.unusedSimpArgs false
namespace Go.Proofs.YtmhmpobjjhbklaaGreatDoor
namespace St
def lFn : W := [102, 117, 110, 99, 32]
def line1B (s : W) : Bool := (typeP s).2 && (lFn ++ Ty.text (typeP s).1.1 (typeP s).1.2 == s)
def line2B (s : W) : Bool := ((Lib.fieldsD s).head? == some lVals) && ((valsP (Lib.fieldsD s).tail).2 && (valsO (valsP (Lib.fieldsD s).tail).1 == s))
end St
open Go.RowKit
open St (InR BV)
def LineOut (w0 w' : World) (ok : Bool) (Q : World → Prop) (e : Ending) : Prop := e = .returned (.bool ok) ∧ Below w0.heap.size w0 w' ∧ (ok = true → Q w')

set_option maxHeartbeats 4000000 in
set_option maxRecDepth 100000 in
theorem line1_any (w0 : World) (Kp : Nat) (s : St.W) (hs : s.length ≤ 900000) (hp : (St.typeP s).1.1.length ≤ 5000 ∧ (St.typeP s).1.2.length ≤ 5000) (w : World) (G : Glob w0) (h : PCl w0 w Kp ⟨[], [], [], []⟩ 0) :
    Calls Tryz.prog 29 #[.pointer (some ⟨Kp, 0, none⟩), .string ⟨s.toArray⟩] w fun e w' => LineOut w0 w' (St.line1B s) (fun W => PCl w0 W Kp ⟨(St.typeP s).1.1, (St.typeP s).1.2, [], []⟩ 1) e := by
  have HT := Lib.hid (fun W (G : Glob W) => sreadType_any s hs W G)
  obtain ⟨ok, hok⟩ : ∃ x, St.line1B s = x := ⟨_, rfl⟩
  rw [hok]
  unfold St.line1B at hok
  obtain ⟨⟨⟨ps, rs⟩, tb⟩, ht⟩ : ∃ x, St.typeP s = x := ⟨_, rfl⟩
  rw [ht] at HT hok hp ⊢
  dsimp only at hok hp ⊢
  have HX := Lib.hid (fun W A c B d (h1 : RdI W W.heap.size A ps) (h2 : RdI W W.heap.size B rs) => text_any A B c d ps rs W h1 h2 hp.1 hp.2)
  have htl : (Ty.text ps rs).length ≤ 300000 := by
    have h1 := list_len ps hp.1
    have h2 := list_len rs hp.2
    unfold Ty.text
    simp; omega
  obtain ⟨TX, htx⟩ : ∃ x, Ty.text ps rs = x := ⟨_, rfl⟩
  rw [htx] at HX hok htl
  have HOK := Lib.hid hok
  have HG := Lib.hid G
  clear hok htx ht G hp
  obtain ⟨S, P, c1, R, c2, V, c3, B, d, L, hA, hL, hC⟩ := h
  have hA1 := hA.setN 1
  obtain ⟨⟨q0, q1, q2, q3, q4, q5⟩, hz⟩ := hA.cells
  have hz4 := hz 4
  have hlt := hA.lt
  have hC1 : ∀ b ∈ L, BC S (w.setCell ⟨Kp, 4, none⟩ (.int .i64 1)) b := fun b hb => (hC b hb).keep (hA.keepK (grown_set _ _ _ _)) (grown_set w Kp 4 _).size
  clear hA hC hz
  obtain ⟨⟨k0, k1, k2, k3, k4, k5⟩, hy⟩ := hA1.cells
  have HA := Lib.hid hA1
  have HC := Lib.hid hC1
  have HL := Lib.hid hL
  clear hA1 hC1 hL hy
  go_enter Tryz.func29, Tryz.ntmps29
  go_upto_region 4 with (go_at_call 65; refine (HT.out _ (HG.out.below HA.out.bel)).mono ?_; rintro e w1 ⟨⟨A, c, B2, d2, rfl, r1, r2⟩, hb⟩)
  have hK1 := HA.out.lt
  obtain ⟨N, hN⟩ : ∃ N, (w.setCell ⟨Kp, 4, none⟩ (.int .i64 1)).heap.size = N := ⟨_, rfl⟩
  have HM := (HA.out.below hb).more HA.out.lt HA.out.ownlt
  have hC2 : ∀ b ∈ L, BC (fun g => S g ∨ ((w.setCell ⟨Kp, 4, none⟩ (.int .i64 1)).heap.size ≤ g ∧ g < w1.heap.size)) w1 b := fun b hb' => ((HC.out b hb').keep (Below.keep hb S) hb.size).mono (fun _ _ h => .inl h)
  have e1 := new_rdz r1 S
  have e2 := new_rdz r2 S
  have hK5 : Kp < w1.heap.size := HM.lt
  obtain ⟨S', hS'⟩ : ∃ S', (fun g => S g ∨ ((w.setCell ⟨Kp, 4, none⟩ (.int .i64 1)).heap.size ≤ g ∧ g < w1.heap.size)) = S' := ⟨_, rfl⟩
  rw [hS'] at HM hC2 e1 e2
  have ha := (Below.refl w1.heap.size w1).alloc (Nat.le_refl _) (.cells #[.slice A ps.length c, .slice B2 rs.length d2] 24)
  refine at_code (F := fun W => PAt w0 W Kp S' P c1 R c2 V c3 B d [] [] [] L 1 false ∧ Var W w1.heap.size #[.slice A ps.length c, .slice B2 rs.length d2] 24 ∧ RdZ W S' A ps ∧ RdZ W S' B2 rs ∧ ∀ b ∈ L, BC S' W b) ⟨HM.below ha, Var.new _ _ _, e1.on ha, e2.on ha, fun b hb' => (hC2 b hb').keep (Below.keep ha S') ha.size⟩ ?_
  clear HM hC2 e1 e2 ha hS' hN r1 r2 hb HA HC k0 k1 k2 k3 k4 k5 q0 q1 q2 q3 q4 q5 hz4 hlt hK1 HT
  obtain ⟨K5, hk5⟩ : ∃ K, w1.heap.size = K := ⟨_, rfl⟩
  rw [hk5] at hK5
  simp only [hk5]
  clear hk5
  rintro W ⟨HA, V5, e1, e2, hC⟩
  obtain ⟨⟨k0, k1, k2, k3, k4, k5⟩, hy⟩ := HA.cells
  have y0 := hy 0
  have y1 := hy 1
  have hlt := HA.lt
  have hl5 := V5.lt
  obtain ⟨g0, g1⟩ := cells2 V5
  have gS := World.grownBy.trans (grown_set W Kp 0 (.slice A ps.length c)) (grown_set _ Kp 1 (.slice B2 rs.length d2))
  have HS := HA.setType (a := c) (c := d2) e1 e2
  have V6 := var_stay V5 gS (by omega)
  obtain ⟨g2, g3⟩ := cells2 V6
  have hk := HA.keepK gS
  have r1 := e1.keep hk gS.size
  have r2 := e2.keep hk gS.size
  have hC2 : ∀ b ∈ L, BC S' _ b := fun b hb' => (hC b hb').keep hk gS.size
  have HS := Lib.hid HS
  have HC2 := Lib.hid hC2
  have R1 := Lib.hid r1
  have R2 := Lib.hid r2
  clear HA V5 V6 e1 e2 hC hy gS hk hC2 r1 r2
  rcases tb with _ | _
  · go_wp2_with fail
    go_ret
    obtain rfl := HOK.out
    exact ⟨rfl, HS.out.bel, fun h => by cases h⟩
  have HE := Lib.hid (cat2 St.lFn TX)
  have x5 : ¬ 9223372036854775807 < 5 + TX.length := by omega
  have HX2 := Lib.hid (HX.out _ A c B2 d2 R1.out.rds.rdI R2.out.rds.rdI)
  obtain ⟨F, hF⟩ : ∃ x, St.lFn ++ TX = x := ⟨_, rfl⟩
  rw [hF] at HE HOK
  unfold St.lFn at HE
  clear hF HX
  by_cases he : F = s
  · subst he
    go_wp2_with (go_at_call 16; refine HX2.out.mono ?_; rintro e w3 ⟨rfl, hb⟩)
    go_ret
    obtain rfl : ok = true := by rw [← HOK.out]; simp
    refine ⟨by first | rfl | (rw [HE.out]; simp), HS.out.bel.trans (hb.mono HS.out.bel.size), fun _ => ⟨S', A, c, B2, d2, V, c3, B, d, L, HS.out.below hb, HL.out, fun b hb' => (HC2.out b hb').keep (Below.keep hb S') hb.size⟩⟩
  · have hq := beq_no he
    have hq2 : (F == s) = false := by simpa using he
    go_wp2_with (go_at_call 16; refine HX2.out.mono ?_; rintro e w3 ⟨rfl, hb⟩)
    go_ret
    obtain rfl : ok = false := by rw [← HOK.out, hq2]; rfl
    refine ⟨by rw [HE.out]; simp [he], HS.out.bel.trans (hb.mono HS.out.bel.size), fun h => by cases h⟩

set_option maxHeartbeats 4000000 in
set_option maxRecDepth 100000 in
theorem line2_any (w0 : World) (Kp : Nat) (s : St.W) (hs : s.length ≤ 900000) (hp : (Lib.fieldsD s).length ≤ 5000) (w : World) (G : Glob w0) (ps rs : List Int) (h : PCl w0 w Kp ⟨ps, rs, [], []⟩ 1) :
    Calls Tryz.prog 29 #[.pointer (some ⟨Kp, 0, none⟩), .string ⟨s.toArray⟩] w fun e w' => LineOut w0 w' (St.line2B s) (fun W => PCl w0 W Kp ⟨ps, rs, (St.valsP (Lib.fieldsD s).tail).1, []⟩ 2) e := by
  have HF := Lib.hid (fun W (G : Glob W) => fields_any s (by omega) W G)
  obtain ⟨ok, hok⟩ : ∃ x, St.line2B s = x := ⟨_, rfl⟩
  rw [hok]
  unfold St.line2B at hok
  have hwd := St.fieldsD_wd s
  obtain ⟨D, hD⟩ : ∃ x, Lib.fieldsD s = x := ⟨_, rfl⟩
  rw [hD] at HF hok hp hwd ⊢
  clear hD
  have HV := Lib.hid (fun W A c (h : RdS W W.heap.size A 1 encS D.tail) => sreadVals_any A c _ D.tail rfl (by rw [List.length_tail]; omega) W h)
  have hvl : (St.valsP D.tail).1.length ≤ 5000 := by
    unfold St.valsP
    split
    · simp; omega
    · simp
  obtain ⟨⟨vs, vb⟩, hv⟩ : ∃ x, St.valsP D.tail = x := ⟨_, rfl⟩
  rw [hv] at HV hok hvl ⊢
  dsimp only at HV hok hvl ⊢
  have HX := Lib.hid (fun W A c (h1 : RdS W W.heap.size A 1 encZ vs) => svals_any A c _ vs rfl hvl W h1)
  obtain ⟨TX, htx⟩ : ∃ x, St.valsO vs = x := ⟨_, rfl⟩
  rw [htx] at HX hok
  have HG := Lib.hid G
  clear htx G hv hvl
  obtain ⟨S, P, c1, R, c2, V, c3, B, d, L, hA, hL, hC⟩ := h
  have hA1 := hA.setN 2
  obtain ⟨⟨q0, q1, q2, q3, q4, q5⟩, hz⟩ := hA.cells
  have hz4 := hz 4
  have hlt := hA.lt
  have hC1 : ∀ b ∈ L, BC S (w.setCell ⟨Kp, 4, none⟩ (.int .i64 2)) b := fun b hb => (hC b hb).keep (hA.keepK (grown_set _ _ _ _)) (grown_set w Kp 4 _).size
  clear hA hC hz
  obtain ⟨⟨k0, k1, k2, k3, k4, k5⟩, hy⟩ := hA1.cells
  have HA := Lib.hid hA1
  have HC := Lib.hid hC1
  have HL := Lib.hid hL
  clear hA1 hC1 hL hy
  rcases D with _ | ⟨u, D⟩
  · go_enter Tryz.func29, Tryz.ntmps29
    go_wp2_with (go_at_call 66; refine (HF.out _ (HG.out.below HA.out.bel)).mono ?_; rintro e w1 ⟨⟨A, rfl, hrd⟩, hb⟩)
    go_ret
    obtain rfl : ok = false := by rw [← hok]; rfl
    exact ⟨rfl, HA.out.bel.trans (hb.mono HA.out.bel.size), fun h => by cases h⟩
  by_cases hu : u = St.lVals
  · subst hu
    rcases D with _ | ⟨v, D⟩
    · skip
      go_enter Tryz.func29, Tryz.ntmps29
      go_upto_region 11 with (first
        | (go_at_call 66; refine (HF.out _ (HG.out.below HA.out.bel)).mono ?_; rintro e w1 ⟨⟨A, rfl, hrd⟩, hb⟩; obtain ⟨g, o, rfl, hg, h0⟩ := hrd.get (i := 0) (by simp); have f0 := h0 0 _ rfl; simp only [Nat.zero_mul, Nat.add_zero, List.getElem_cons_zero] at f0; unfold St.lVals at f0; have hrt : RdS w1 w1.heap.size (none : Option Addr) 1 encS ([] : List St.W) := RdS.nil_)
        | (go_at_call 67; refine (HV.out _ _ _ (RdS.nil_)).mono ?_; rintro e w2 ⟨⟨A2, c4, rfl, r2⟩, hb2⟩))
      have hb3 := hb.trans (hb2.mono hb.size)
      have HM := (HA.out.below hb3).more HA.out.lt HA.out.ownlt
      have hC2 : ∀ b ∈ L, BC (fun g => S g ∨ ((w.setCell ⟨Kp, 4, none⟩ (.int .i64 2)).heap.size ≤ g ∧ g < w2.heap.size)) w2 b := fun b hb' => ((HC.out b hb').keep (Below.keep hb3 S) hb3.size).mono (fun _ _ h => .inl h)
      have e2 := new_rdz (RdZ.mono (S' := fun g => (w.setCell ⟨Kp, 4, none⟩ (.int .i64 2)).heap.size ≤ g) r2 (fun g _ h => Nat.le_trans hb.size h)) S
      obtain ⟨S', hS'⟩ : ∃ S', (fun g => S g ∨ ((w.setCell ⟨Kp, 4, none⟩ (.int .i64 2)).heap.size ≤ g ∧ g < w2.heap.size)) = S' := ⟨_, rfl⟩
      rw [hS'] at HM hC2 e2
      refine at_code (F := fun W => PAt w0 W Kp S' P c1 R c2 V c3 B d ps rs [] L 2 false ∧ RdZ W S' A2 vs ∧ ∀ b ∈ L, BC S' W b) ⟨HM, e2, hC2⟩ ?_
      clear HM hC2 e2 hS' r2 hb2 hb3 hb HA HC k0 k1 k2 k3 k4 k5 q0 q1 q2 q3 q4 q5 hz4 hlt HV HF hrt hrd f0 h0
      rintro W ⟨HA, e2, hC⟩
      obtain ⟨⟨k0, k1, k2, k3, k4, k5⟩, hy⟩ := HA.cells
      have y2 := hy 2
      have hlt := HA.lt
      have gS := grown_set W Kp 2 (.slice A2 vs.length c4)
      have HS := HA.setVals (a := c4) e2
      have hk := HA.keepK gS
      have r2 := e2.keep hk gS.size
      have hC2 : ∀ b ∈ L, BC S' _ b := fun b hb' => (hC b hb').keep hk gS.size
      have HS := Lib.hid HS
      have HC2 := Lib.hid hC2
      have HX2 := Lib.hid (HX.out _ A2 c4 r2.rds)
      clear HA e2 hC hy gS hk hC2 r2 HX
      rcases vb with _ | _
      · go_wp2_with fail
        go_ret
        obtain rfl : ok = false := by rw [← hok]; simp
        exact ⟨rfl, HS.out.bel, fun h => by cases h⟩
      by_cases he : TX = s
      · obtain rfl : ok = true := by rw [← hok]; simp [he]
        rw [he] at HX2
        clear hok he
        go_wp2_with (go_at_call 17; refine HX2.out.mono ?_; rintro e w3 ⟨rfl, hb⟩)
        go_ret
        exact ⟨by first | rfl | simp, HS.out.bel.trans (hb.mono HS.out.bel.size), fun _ => ⟨S', P, c1, R, c2, A2, c4, B, d, L, HS.out.below hb, HL.out, fun b hb' => (HC2.out b hb').keep (Below.keep hb S') hb.size⟩⟩
      · obtain rfl : ok = false := by rw [← hok]; simp [he]
        have hq := beq_no he
        have hq2 : (TX == s) = false := by simpa using he
        clear hok
        go_wp2_with (go_at_call 17; refine HX2.out.mono ?_; rintro e w3 ⟨rfl, hb⟩)
        go_ret
        exact ⟨by first | rfl | simp [he], HS.out.bel.trans (hb.mono HS.out.bel.size), fun h => by cases h⟩
    · skip
      go_enter Tryz.func29, Tryz.ntmps29
      go_upto_region 11 with (first
        | (go_at_call 66; refine (HF.out _ (HG.out.below HA.out.bel)).mono ?_; rintro e w1 ⟨⟨A, rfl, hrd⟩, hb⟩; obtain ⟨g, o, rfl, hg, h0⟩ := hrd.get (i := 0) (by simp); have f0 := h0 0 _ rfl; simp only [Nat.zero_mul, Nat.add_zero, List.getElem_cons_zero] at f0; unfold St.lVals at f0; obtain ⟨g', o', e', hrt⟩ := hrd.from_ (i := 1) (by simp); cases e')
        | (go_at_call 67; refine (HV.out _ _ _ hrt).mono ?_; rintro e w2 ⟨⟨A2, c4, rfl, r2⟩, hb2⟩))
      have hb3 := hb.trans (hb2.mono hb.size)
      have HM := (HA.out.below hb3).more HA.out.lt HA.out.ownlt
      have hC2 : ∀ b ∈ L, BC (fun g => S g ∨ ((w.setCell ⟨Kp, 4, none⟩ (.int .i64 2)).heap.size ≤ g ∧ g < w2.heap.size)) w2 b := fun b hb' => ((HC.out b hb').keep (Below.keep hb3 S) hb3.size).mono (fun _ _ h => .inl h)
      have e2 := new_rdz (RdZ.mono (S' := fun g => (w.setCell ⟨Kp, 4, none⟩ (.int .i64 2)).heap.size ≤ g) r2 (fun g _ h => Nat.le_trans hb.size h)) S
      obtain ⟨S', hS'⟩ : ∃ S', (fun g => S g ∨ ((w.setCell ⟨Kp, 4, none⟩ (.int .i64 2)).heap.size ≤ g ∧ g < w2.heap.size)) = S' := ⟨_, rfl⟩
      rw [hS'] at HM hC2 e2
      refine at_code (F := fun W => PAt w0 W Kp S' P c1 R c2 V c3 B d ps rs [] L 2 false ∧ RdZ W S' A2 vs ∧ ∀ b ∈ L, BC S' W b) ⟨HM, e2, hC2⟩ ?_
      clear HM hC2 e2 hS' r2 hb2 hb3 hb HA HC k0 k1 k2 k3 k4 k5 q0 q1 q2 q3 q4 q5 hz4 hlt HV HF hrt hrd f0 h0
      rintro W ⟨HA, e2, hC⟩
      obtain ⟨⟨k0, k1, k2, k3, k4, k5⟩, hy⟩ := HA.cells
      have y2 := hy 2
      have hlt := HA.lt
      have gS := grown_set W Kp 2 (.slice A2 vs.length c4)
      have HS := HA.setVals (a := c4) e2
      have hk := HA.keepK gS
      have r2 := e2.keep hk gS.size
      have hC2 : ∀ b ∈ L, BC S' _ b := fun b hb' => (hC b hb').keep hk gS.size
      have HS := Lib.hid HS
      have HC2 := Lib.hid hC2
      have HX2 := Lib.hid (HX.out _ A2 c4 r2.rds)
      clear HA e2 hC hy gS hk hC2 r2 HX
      rcases vb with _ | _
      · go_wp2_with fail
        go_ret
        obtain rfl : ok = false := by rw [← hok]; simp
        exact ⟨rfl, HS.out.bel, fun h => by cases h⟩
      by_cases he : TX = s
      · obtain rfl : ok = true := by rw [← hok]; simp [he]
        rw [he] at HX2
        clear hok he
        go_wp2_with (go_at_call 17; refine HX2.out.mono ?_; rintro e w3 ⟨rfl, hb⟩)
        go_ret
        exact ⟨by first | rfl | simp, HS.out.bel.trans (hb.mono HS.out.bel.size), fun _ => ⟨S', P, c1, R, c2, A2, c4, B, d, L, HS.out.below hb, HL.out, fun b hb' => (HC2.out b hb').keep (Below.keep hb S') hb.size⟩⟩
      · obtain rfl : ok = false := by rw [← hok]; simp [he]
        have hq := beq_no he
        have hq2 : (TX == s) = false := by simpa using he
        clear hok
        go_wp2_with (go_at_call 17; refine HX2.out.mono ?_; rintro e w3 ⟨rfl, hb⟩)
        go_ret
        exact ⟨by first | rfl | simp [he], HS.out.bel.trans (hb.mono HS.out.bel.size), fun h => by cases h⟩
  · have hq := bne_no hu
    have hbe := beq_no hu
    have hq2 : (u == St.lVals) = false := by simpa using hu
    unfold St.lVals at hq hbe hq2
    obtain rfl : ok = false := by rw [← hok, show ((u :: D).head? == some St.lVals) = false from by simpa using hu]; rfl
    clear hok hu
    go_enter Tryz.func29, Tryz.ntmps29
    go_wp2_with (go_at_call 66; refine (HF.out _ (HG.out.below HA.out.bel)).mono ?_; rintro e w1 ⟨⟨A, rfl, hrd⟩, hb⟩; obtain ⟨g, o, rfl, hg, h0⟩ := hrd.get (i := 0) (by simp); have f0 := h0 0 _ rfl; simp only [Nat.zero_mul, Nat.add_zero, List.getElem_cons_zero] at f0)
    go_ret
    exact ⟨rfl, HA.out.bel.trans (hb.mono HA.out.bel.size), fun h => by cases h⟩
end Go.Proofs.YtmhmpobjjhbklaaGreatDoor
set_option linter.unusedVariables false
set_option linter.unusedSimpArgs false
namespace Go.Proofs.YtmhmpobjjhbklaaGreatDoor
open Go.RowKit
open St (InR BV)
theorem info_sblock : ∃ z b, (Tryz.prog.info? 44).map (fun i => (i.zero, i.size, i.bytes)) = some (some z, 7, b) ∧ z.cells.size = 7 ∧ b ≤ 1000 := ⟨.agg #[.slice none 0 0, .slice none 0 0, .int .i64 0, .int .i64 0, .slice none 0 0, .slice none 0 0, .int .i64 0], 120, by kernel_rfl, by kernel_rfl, by decide⟩
def blk0 (l : List Int) (A : Option Addr) (c : Nat) : BV := ⟨l, A, c, [], none, 0, St.fin0z, none, 0, none, 0⟩
theorem one_blk (W : World) (l : List Int) (A : Option Addr) (c : Nat) : Reads (W.alloc (.cells #[.slice A l.length c, .slice none 0 0, .int .i64 0, .int .i64 0, .slice none 0 0, .slice none 0 0, .int .i64 0] 44)) (W.alloc (.cells #[.slice A l.length c, .slice none 0 0, .int .i64 0, .int .i64 0, .slice none 0 0, .slice none 0 0, .int .i64 0] 44)).heap.size 7 (some ⟨W.heap.size, 0, none⟩) 1 ([blk0 l A c].flatMap encB) :=
  block_reads (cs := #[.slice A l.length c, .slice none 0 0, .int .i64 0, .int .i64 0, .slice none 0 0, .slice none 0 0, .int .i64 0]) rfl (heap_alloc_new W _)
theorem wrap_next (n : Nat) (h : n ≤ 1000000) : wrap64 ((n : Int) + 1) = (n : Int) + 1 := by unfold wrap64; omega

set_option maxHeartbeats 4000000 in
set_option maxRecDepth 100000 in
theorem lineB_any (w0 : World) (Kp : Nat) (s : St.W) (hs : s.length ≤ 900000) (hp : (Lib.fieldsD s).length ≤ 5000) (w : World) (G : Glob w0) (x : St.Ssa) (n : Nat) (hn : 2 ≤ n) (hn2 : n ≤ 1000000) (hbl : x.blocks.length ≤ 1000000) (h : PCl w0 w Kp x n) :
    Calls Tryz.prog 29 #[.pointer (some ⟨Kp, 0, none⟩), .string ⟨s.toArray⟩] w fun e w' => LineOut w0 w' (St.blockP s).2 (fun W => POp w0 W Kp x (St.blockP s).1 [] (n + 1 : Nat)) e := by
  have HB := Lib.hid (fun W (G : Glob W) => sreadBlock_any s (by omega) (by omega) W G)
  obtain ⟨⟨l, lb⟩, hl⟩ : ∃ y, St.blockP s = y := ⟨_, rfl⟩
  rw [hl] at HB ⊢
  dsimp only
  have HG := Lib.hid G
  clear hl G
  have hw := wrap_next n hn2
  have x1 : ¬ ((n : Int) + 1 = 1) := by omega
  have x2 : ¬ ((n : Int) + 1 = 2) := by omega
  obtain ⟨zB, bB, hinfo, hzs, hbb⟩ := info_sblock
  obtain ⟨i0, hi0, hz0, hz1, hz2⟩ := info_parts hinfo
  obtain ⟨S, P, c1, R, c2, V, c3, B, d, L, hA, hL, hC⟩ := h
  have hLl : L.length ≤ 1000000 := by rw [← hL] at hbl; simpa using hbl
  have hA1 := hA.setN ((n : Int) + 1)
  obtain ⟨⟨q0, q1, q2, q3, q4, q5⟩, hz⟩ := hA.cells
  have hz4 := hz 4
  have hlt := hA.lt
  have hC1 : ∀ b ∈ L, BC S (w.setCell ⟨Kp, 4, none⟩ (.int .i64 ((n : Int) + 1))) b := fun b hb => (hC b hb).keep (hA.keepK (grown_set _ _ _ _)) (grown_set w Kp 4 _).size
  clear hA hC hz
  obtain ⟨⟨k0, k1, k2, k3, k4, k5⟩, hy⟩ := hA1.cells
  have HA := Lib.hid hA1
  have HC := Lib.hid hC1
  have HL := Lib.hid hL
  clear hA1 hC1 hL hy
  go_enter Tryz.func29, Tryz.ntmps29
  go_upto_region 15 with (go_at_call 68; refine (HB.out _ (HG.out.below HA.out.bel)).mono ?_; rintro e w1 ⟨⟨A, c, rfl, r1⟩, hb⟩)
  have HM := (HA.out.below hb).more HA.out.lt HA.out.ownlt
  have hC2 : ∀ b ∈ L, BC (fun g => S g ∨ ((w.setCell ⟨Kp, 4, none⟩ (.int .i64 ((n : Int) + 1))).heap.size ≤ g ∧ g < w1.heap.size)) w1 b := fun b hb' => ((HC.out b hb').keep (Below.keep hb S) hb.size).mono (fun _ _ h => .inl h)
  have e1 := new_rdz r1 S
  obtain ⟨S', hS'⟩ : ∃ S', (fun g => S g ∨ ((w.setCell ⟨Kp, 4, none⟩ (.int .i64 ((n : Int) + 1))).heap.size ≤ g ∧ g < w1.heap.size)) = S' := ⟨_, rfl⟩
  rw [hS'] at HM hC2 e1
  refine at_code (F := fun W => PAt w0 W Kp S' P c1 R c2 V c3 B d x.ps x.rs x.vals L ((n : Int) + 1) false ∧ RdZ W S' A l ∧ ∀ b ∈ L, BC S' W b) ⟨HM, e1, hC2⟩ ?_
  clear HM hC2 e1 hS' r1 hb HA HC k0 k1 k2 k3 k4 k5 q0 q1 q2 q3 q4 q5 hz4 hlt HB hw x1 x2
  rintro W ⟨HA, e1, hC⟩
  obtain ⟨⟨k0, k1, k2, k3, k4, k5⟩, hy⟩ := HA.cells
  have hlt := HA.lt
  clear hy k0 k1 k2 k4 k5
  have ha := (Below.refl W.heap.size W).alloc (Nat.le_refl _) (.cells #[.slice A l.length c, .slice none 0 0, .int .i64 0, .int .i64 0, .slice none 0 0, .slice none 0 0, .int .i64 0] 44)
  have HA2 := Lib.hid (HA.below ha)
  have E2 := Lib.hid (e1.on ha)
  have HC2 : Hid (∀ b ∈ L, BC S' _ b) := Lib.hid fun b hb' => (hC b hb').keep (Below.keep ha S') ha.size
  clear HA e1 hC ha
  go_wp2_with (at_builtin; refine app_rs2 Tryz.underlying25 hi0 hz0 hz1 hz2 hzs (by omega) encB_len encB_one _ rfl (.tmp 99) (.tmp 102) rfl (Kp + 1) (.slice B L.length d) L.length L (by rfl) HA2.out.own [blk0 l A c] 1 1 _ rfl (by rfl) (one_blk W l A c) (by omega) hbb (by simp; omega) ?_; intro A' c' w2 own2 hg2 hob; obtain ⟨HA3, hk3, hs3⟩ := HA2.out.app own2 hg2 hob; have HA4 := HA3.setOpen true; have hkc := (HA3.keepK (grown_set _ _ 5 (.bool true))); obtain ⟨⟨m0, m1, m2, m3, m4, m5⟩, my⟩ := HA3.cells; have my5 := my 5; have l3 := HA3.lt; have V5 := var_grown HA2.out.cell HA2.out.own (by decide) hg2; have n3 : w2.cell? ⟨Kp, 3, none⟩ = some (.slice B L.length d) := V5.cells 3; have nz := V5.froz 3; have nl := V5.lt)
  go_ret
  refine ⟨rfl, HA4.bel, fun _ => ?_⟩
  have g5 := grown_set (w2.setCell ⟨Kp, 3, none⟩ (.slice A' (L.length + 1) c')) Kp 5 (.bool true)
  have hk6 := hk3.trans hkc
  have hs6 := Nat.le_trans hs3 g5.size
  exact ⟨S', P, c1, R, c2, V, c3, A', c', L, blk0 l A c, [], HA4, HL.out, fun b hb => (HC2.out b hb).keep hk6 hs6, rfl, rfl, rfl, rfl, rfl, rfl, rfl, E2.out.keep hk6 hs6, rfl, World.ownsRow_nil _ _ _ _, by simp, fun g _ e => by cases e⟩
end Go.Proofs.YtmhmpobjjhbklaaGreatDoor
set_option linter.unusedVariables false
set_option linter.unusedSimpArgs false
namespace Go.Proofs.YtmhmpobjjhbklaaGreatDoor
open Go.RowKit
open St (InR BV)
theorem own_apart {W : World} {b1 b2 k1 k2 n1 n2 : Nat} {e1 e2 : TypeId} {v1 v2 : Value} {x1 x2 : List Value} (h1 : W.ownsRow b1 e1 k1 v1 n1 x1) (h2 : W.ownsRow b2 e2 k2 v2 n2 x2) (hne : e1 ≠ e2) : ∀ j, v1.ownBlock = some j → v2.ownBlock ≠ some j := fun j hj hk => by
  obtain ⟨_, h1⟩ := h1
  obtain ⟨_, h2⟩ := h2
  rcases h1 with ⟨rfl, _⟩ | ⟨g1, c1, u1, rfl, _, hh1, _⟩
  · cases hj
  rcases h2 with ⟨rfl, _⟩ | ⟨g2, c2, u2, rfl, _, hh2, _⟩
  · cases hk
  simp [Value.ownBlock] at hj hk
  subst hj hk
  rw [hh1] at hh2
  injection hh2 with hh2
  injection hh2 with _ h
  exact hne h
section
variable {w0 W W' : World} {Kp : Nat} {S : Nat → Prop} {P R V B : Option Addr} {c1 c2 c3 d g : Nat} {ps rs vals : List Int} {L : List BV} {cur cur' : BV} {n : Int} {op : Bool}
/-- A cell of the last block is written. -/
theorem PAt.setB (h : PAt w0 W Kp S P c1 R c2 V c3 (some ⟨g, 0, none⟩) d ps rs vals (L ++ [cur]) n op) (j : Nat) (hj : j < 7) (u : Value) (he : (encB cur).set j u = encB cur') :
    PAt w0 (W.setCell ⟨g, L.length * 7 + j, none⟩ u) Kp S P c1 R c2 V c3 (some ⟨g, 0, none⟩) d ps rs vals (L ++ [cur']) n op ∧ Keep S W (W.setCell ⟨g, L.length * 7 + j, none⟩ u) ∧ W.grownBy (W.setCell ⟨g, L.length * 7 + j, none⟩ u) (some g) := by
  have gs := grown_set W g (L.length * 7 + j) u
  have hl : (L ++ [cur']).length = (L ++ [cur]).length := by simp
  have hgK : Kp < g := (h.own.lt g rfl).1
  have hSg : ¬ S g := fun hs => (h.sS g hs).2.2 rfl
  have hk := keep_grown gs hSg
  have own := own_set h.own (i := L.length * 7 + j) (by rw [flat_len encB_len]; simp; omega) u
  rw [flat_last encB_len, he, show L.flatMap encB ++ encB cur' = (L ++ [cur']).flatMap encB from by simp] at own
  refine ⟨⟨below_grown h.bel gs h.bel.size (by have := h.lo; omega), h.lo, ?_, h.tps.keep hk gs.size, h.trs.keep hk gs.size, h.tvs.keep hk gs.size, ?_, ?_⟩, hk, gs⟩
  · rw [hl]; exact var_stay h.cell gs (by omega)
  · rw [hl]; exact own
  · intro k hs
    rw [hl]
    obtain ⟨h1, h2⟩ := h.sS k hs
    exact ⟨Nat.lt_of_lt_of_le h1 gs.size, h2⟩
end
theorem ins_rdt {W : World} {base : Nat} {A : Option Addr} {c : Nat} {S S' : Nat → Prop} {M : List IV} (own : W.ownsRow base 48 7 (.slice A M.length c) M.length (M.flatMap encI)) (hM : ∀ v ∈ M, IC S W v) (hS : ∀ g, S g → S' g) (ho : ∀ g, (Value.slice A M.length c).ownBlock = some g → S' g) : RdT W S' A 7 (InsAt S') (M.map Prod.fst) := by
  intro hl
  have hL : M ≠ [] := fun e => hl (by rw [e]; rfl)
  obtain ⟨g, o, e, hb, hc⟩ := own_rds encI_len (by omega) own hL
  refine ⟨g, o, e, ho g (by rw [e]; rfl), hb, fun i hi => ?_⟩
  have hi2 : i < M.length := by simpa using hi
  have he : (M.map Prod.fst)[i] = M[i].1 := by simp
  have hI := (hM _ (List.getElem_mem hi2)).mono (S' := S') fun g _ h => hS g h
  rw [he]
  exact ⟨hc i hi2 0 _ rfl, hc i hi2 1 _ rfl, hc i hi2 2 _ rfl, hc i hi2 3 _ rfl, hc i hi2 4 _ rfl, ⟨_, _, hc i hi2 5 _ rfl, hI.a⟩, _, _, hc i hi2 6 _ rfl, hI.o⟩
/-- The parser inside a block, with where everything lies. -/
structure OAt (w0 W : World) (Kp : Nat) (S : Nat → Prop) (P : Option Addr) (c1 : Nat) (R : Option Addr) (c2 : Nat) (V : Option Addr) (c3 : Nat) (g d : Nat) (ps rs vals : List Int) (L : List BV) (cur : BV) (M : List IV) (n : Int) : Prop where
  p : PAt w0 W Kp S P c1 R c2 V c3 (some ⟨g, 0, none⟩) d ps rs vals (L ++ [cur]) n true
  bc : ∀ b ∈ L, BC S W b
  fz : cur.fin = St.fin0z ∧ cur.Aa = none ∧ cur.ca = 0 ∧ cur.At = none ∧ cur.ct = 0
  par : RdZ W S cur.Ap cur.params
  mi : M.map Prod.fst = cur.ins
  own : W.ownsRow (Kp + 1) 48 7 (.slice cur.Ai M.length cur.ci) M.length (M.flatMap encI)
  ic : ∀ v ∈ M, IC S W v
  oS : ∀ k, S k → (Value.slice cur.Ai M.length cur.ci).ownBlock ≠ some k
section
variable {w0 W W' : World} {Kp : Nat} {S : Nat → Prop} {P R V : Option Addr} {c1 c2 c3 d g : Nat} {ps rs vals : List Int} {L : List BV} {cur : BV} {M : List IV} {n : Int}
theorem OAt.of (x : St.Ssa) (params : List Int) (ins : List St.Ins) (h : POp w0 W Kp x params ins n) : ∃ S P c1 R c2 V c3 g d L cur M, OAt w0 W Kp S P c1 R c2 V c3 g d x.ps x.rs x.vals L cur M n ∧ L.map St.BV.blk = x.blocks ∧ cur.params = params ∧ cur.ins = ins := by
  obtain ⟨S, P, c1, R, c2, V, c3, B, d, L, cur, M, hA, hL, hC, e1, e2, e3, e4, e5, e6, e7, e8, e9, e10, e11, e12⟩ := h
  subst e1 e2
  have hl : cur.ins.length = M.length := by rw [← e9]; simp
  obtain ⟨g, rfl, -⟩ := own_cells hA.own (i := 0) (by rw [flat_len encB_len]; simp)
  exact ⟨S, P, c1, R, c2, V, c3, g, d, L, cur, M, ⟨hA, hC, ⟨e3, e4, e5, e6, e7⟩, e8, e9, by rw [← hl]; exact e10, e11, by rw [← hl]; exact e12⟩, hL, rfl, rfl⟩
theorem OAt.to (h : OAt w0 W Kp S P c1 R c2 V c3 g d ps rs vals L cur M n) : POp w0 W Kp ⟨ps, rs, vals, L.map St.BV.blk⟩ cur.params cur.ins n := by
  have hl : cur.ins.length = M.length := by rw [← h.mi]; simp
  exact ⟨S, P, c1, R, c2, V, c3, _, d, L, cur, M, h.p, rfl, h.bc, rfl, rfl, h.fz.1, h.fz.2.1, h.fz.2.2.1, h.fz.2.2.2.1, h.fz.2.2.2.2, h.par, h.mi, by rw [hl]; exact h.own, h.ic, by rw [hl]; exact h.oS⟩
theorem OAt.below (h : OAt w0 W Kp S P c1 R c2 V c3 g d ps rs vals L cur M n) (hb : Below W.heap.size W W') : OAt w0 W' Kp S P c1 R c2 V c3 g d ps rs vals L cur M n :=
  ⟨h.p.below hb, fun b hb' => (h.bc b hb').keep (Below.keep hb S) hb.size, h.fz, h.par.on hb, h.mi, own_belowW h.own hb, fun v hv => (h.ic v hv).keep (Below.keep hb S) hb.size, h.oS⟩
theorem OAt.setN (h : OAt w0 W Kp S P c1 R c2 V c3 g d ps rs vals L cur M n) (m : Int) : OAt w0 (W.setCell ⟨Kp, 4, none⟩ (.int .i64 m)) Kp S P c1 R c2 V c3 g d ps rs vals L cur M m := by
  have gs := grown_set W Kp 4 (.int .i64 m)
  have hk := h.p.keepK gs
  exact ⟨h.p.setN m, fun b hb' => (h.bc b hb').keep hk gs.size, h.fz, h.par.keep hk gs.size, h.mi, own_stay h.own gs (by omega), fun v hv => (h.ic v hv).keep hk gs.size, h.oS⟩
theorem OAt.more (h : OAt w0 W Kp S P c1 R c2 V c3 g d ps rs vals L cur M n) {N : Nat} (hK : Kp < N) (hN : ∀ j, (Value.slice (some ⟨g, 0, none⟩) (L ++ [cur]).length d).ownBlock = some j → j < N) (hI : ∀ j, (Value.slice cur.Ai M.length cur.ci).ownBlock = some j → j < N) : OAt w0 W Kp (fun k => S k ∨ (N ≤ k ∧ k < W.heap.size)) P c1 R c2 V c3 g d ps rs vals L cur M n :=
  ⟨h.p.more hK hN, fun b hb' => (h.bc b hb').mono fun _ _ hs => .inl hs, h.fz, h.par.mono fun _ _ hs => .inl hs, h.mi, h.own, fun v hv => (h.ic v hv).mono fun _ _ hs => .inl hs, fun k hk e => by
    rcases hk with hk | ⟨h1, h2⟩
    · exact h.oS k hk e
    · have := hI k e; omega⟩
/-- The block's end is set: the block is closed. -/
theorem OAt.close (h : OAt w0 W Kp S P c1 R c2 V c3 g d ps rs vals L cur M n) (f : St.Fin) {A C : Option Addr} {a c : Nat} (ha : RdZ W S A f.args) (hc : RdT W S C 2 (EdgeAt S) f.edges) :
    PCl w0 ((((((W.setCell ⟨g, L.length * 7 + 2, none⟩ (.int .i64 f.kind)).setCell ⟨g, L.length * 7 + 3, none⟩ (.int .i64 f.cond)).setCell ⟨g, L.length * 7 + 4, none⟩ (.slice A f.args.length a)).setCell ⟨g, L.length * 7 + 5, none⟩ (.slice C f.edges.length c)).setCell ⟨g, L.length * 7 + 6, none⟩ (.int .i64 f.trap)).setCell ⟨Kp, 5, none⟩ (.bool false)) Kp ⟨ps, rs, vals, L.map St.BV.blk ++ [⟨cur.params, cur.ins, f⟩]⟩ n := by
  obtain ⟨params, Ap, cp, ins, Ai, ci, fin, Aa, ca, At, ct⟩ := cur
  obtain ⟨hp, bc, ⟨f1, f2, f3, f4, f5⟩, par, mi, own, ic, oS⟩ := h
  dsimp only at *
  subst f1 f2 f3 f4 f5
  obtain ⟨p1, k1, g1⟩ := hp.setB (cur' := ⟨params, Ap, cp, ins, Ai, ci, ⟨f.kind, 0, [], [], 0⟩, none, 0, none, 0⟩) 2 (by omega) (.int .i64 f.kind) rfl
  obtain ⟨p2, k2, g2⟩ := p1.setB (cur' := ⟨params, Ap, cp, ins, Ai, ci, ⟨f.kind, f.cond, [], [], 0⟩, none, 0, none, 0⟩) 3 (by omega) (.int .i64 f.cond) rfl
  obtain ⟨p3, k3, g3⟩ := p2.setB (cur' := ⟨params, Ap, cp, ins, Ai, ci, ⟨f.kind, f.cond, f.args, [], 0⟩, A, a, none, 0⟩) 4 (by omega) (.slice A f.args.length a) rfl
  obtain ⟨p4, k4, g4⟩ := p3.setB (cur' := ⟨params, Ap, cp, ins, Ai, ci, ⟨f.kind, f.cond, f.args, f.edges, 0⟩, A, a, C, c⟩) 5 (by omega) (.slice C f.edges.length c) rfl
  obtain ⟨p5, k5, g5⟩ := p4.setB (cur' := ⟨params, Ap, cp, ins, Ai, ci, f, A, a, C, c⟩) 6 (by omega) (.int .i64 f.trap) rfl
  have g15 := ((((g1.trans g2).trans g3).trans g4).trans g5)
  have k15 := ((((k1.trans k2).trans k3).trans k4).trans k5)
  obtain ⟨X, hX⟩ : ∃ X, (((((W.setCell ⟨g, L.length * 7 + 2, none⟩ (.int .i64 f.kind)).setCell ⟨g, L.length * 7 + 3, none⟩ (.int .i64 f.cond)).setCell ⟨g, L.length * 7 + 4, none⟩ (.slice A f.args.length a)).setCell ⟨g, L.length * 7 + 5, none⟩ (.slice C f.edges.length c)).setCell ⟨g, L.length * 7 + 6, none⟩ (.int .i64 f.trap)) = X := ⟨_, rfl⟩
  rw [hX] at p5 g15 k15 ⊢
  clear p1 p2 p3 p4 k1 k2 k3 k4 k5 g1 g2 g3 g4 g5 hX
  have hap := own_apart own hp.own (by decide)
  have ownX : X.ownsRow (Kp + 1) 48 7 (.slice Ai M.length ci) M.length (M.flatMap encI) := own.kept g15 (.inr (fun e => hap _ e rfl))
  have gz := grown_set X Kp 5 (.bool false)
  have kz := k15.trans (p5.keepK gz)
  have sz := Nat.le_trans g15.size gz.size
  have ownZ := own_stay ownX gz (by omega)
  have pz := p5.setOpen false
  -- the instructions' row joins S
  have hS : ∀ k, (S k ∨ (Value.slice Ai M.length ci).ownBlock = some k) → k < (X.setCell ⟨Kp, 5, none⟩ (.bool false)).heap.size ∧ Kp < k ∧ (Value.slice (some ⟨g, 0, none⟩) (L ++ [(⟨params, Ap, cp, ins, Ai, ci, f, A, a, C, c⟩ : BV)]).length d).ownBlock ≠ some k := by
    intro k hk
    rcases hk with hk | hk
    · exact pz.sS k hk
    · have := (ownZ.lt k hk)
      exact ⟨this.2, by omega, own_apart ownZ pz.own (by decide) k hk⟩
  have pz2 : PAt w0 (X.setCell ⟨Kp, 5, none⟩ (.bool false)) Kp (fun k => S k ∨ (Value.slice Ai M.length ci).ownBlock = some k) P c1 R c2 V c3 (some ⟨g, 0, none⟩) d ps rs vals (L ++ [(⟨params, Ap, cp, ins, Ai, ci, f, A, a, C, c⟩ : BV)]) n false :=
    ⟨pz.bel, pz.lo, pz.cell, pz.tps.mono fun _ _ h => .inl h, pz.trs.mono fun _ _ h => .inl h, pz.tvs.mono fun _ _ h => .inl h, pz.own, hS⟩
  refine ⟨_, P, c1, R, c2, V, c3, _, d, _, pz2, by simp [St.BV.blk], fun b hb => ?_⟩
  rcases List.mem_append.1 hb with hb | hb
  · exact ((bc b hb).keep kz sz).mono fun _ _ h => .inl h
  · rw [List.mem_singleton.1 hb]
    refine ⟨(par.keep kz sz).mono fun _ _ h => .inl h, ?_, (ha.keep kz sz).mono fun _ _ h => .inl h, RdT.mono (hc.keep (fun g o x hs' hx => EdgeAt.keep kz sz g o x hs' hx) sz) (fun _ _ h => .inl h) (EdgeAt.mono fun _ _ h => .inl h)⟩
    have := ins_rdt (S := S) (S' := fun k => S k ∨ (Value.slice Ai M.length ci).ownBlock = some k) ownZ (fun v hv => (ic v hv).keep kz sz) (fun _ h => .inl h) (fun _ h => .inr h)
    rw [mi] at this
    exact this
/-- An instruction appended, and the slice stored. -/
theorem OAt.app (h : OAt w0 W Kp S P c1 R c2 V c3 g d ps rs vals L cur M n) {v : IV} (hv : IC S W v) {A : Option Addr} {c : Nat} (own : W'.ownsRow (Kp + 1) 48 7 (.slice A (M.length + 1) c) (M.length + 1) ((M ++ [v]).flatMap encI)) (hg : W.grownBy W' (Value.slice cur.Ai M.length cur.ci).ownBlock)
    (hb : (Value.slice A (M.length + 1) c).ownBlock = (Value.slice cur.Ai M.length cur.ci).ownBlock ∨ (Value.slice A (M.length + 1) c).ownBlock = some W.heap.size) :
    POp w0 (W'.setCell ⟨g, L.length * 7 + 1, none⟩ (.slice A (M.length + 1) c)) Kp ⟨ps, rs, vals, L.map St.BV.blk⟩ cur.params (cur.ins ++ [v.1]) n := by
  obtain ⟨params, Ap, cp, ins, Ai, ci, fin, Aa, ca, At, ct⟩ := cur
  obtain ⟨hp, bc, ⟨f1, f2, f3, f4, f5⟩, par, mi, own0, ic, oS⟩ := h
  dsimp only at *
  have hil : ins.length = M.length := by rw [← mi]; simp
  have hk1 : Keep S W W' := fun p u hs hc => hg.cell hc (fun e => oS _ hs e.symm)
  have hap := own_apart own0 hp.own (by decide)
  have ownB : W'.ownsRow (Kp + 1) 44 7 (.slice (some ⟨g, 0, none⟩) (L ++ [(⟨params, Ap, cp, ins, Ai, ci, fin, Aa, ca, At, ct⟩ : BV)]).length d) (L ++ [(⟨params, Ap, cp, ins, Ai, ci, fin, Aa, ca, At, ct⟩ : BV)]).length ((L ++ [(⟨params, Ap, cp, ins, Ai, ci, fin, Aa, ca, At, ct⟩ : BV)]).flatMap encB) := hp.own.kept hg (.inr (fun e => hap g e.symm rfl))
  have cellB := var_grown hp.cell own0 (by decide) hg
  have belB : Below w0.heap.size w0 W' := hp.bel.grown hg hp.bel.size (fun j hj => by have := (own0.lt j hj).1; have := hp.lo; omega)
  have p1 : PAt w0 W' Kp S P c1 R c2 V c3 (some ⟨g, 0, none⟩) d ps rs vals (L ++ [(⟨params, Ap, cp, ins, Ai, ci, fin, Aa, ca, At, ct⟩ : BV)]) n true :=
    ⟨belB, hp.lo, cellB, hp.tps.keep hk1 hg.size, hp.trs.keep hk1 hg.size, hp.tvs.keep hk1 hg.size, ownB, fun k hs => ⟨Nat.lt_of_lt_of_le (hp.sS k hs).1 hg.size, (hp.sS k hs).2⟩⟩
  obtain ⟨p2, k2, g2⟩ := p1.setB (cur' := ⟨params, Ap, cp, ins ++ [v.1], A, c, fin, Aa, ca, At, ct⟩) 1 (by omega) (.slice A (M.length + 1) c) (by simp [encB, hil])
  have hk := hk1.trans k2
  have sz := Nat.le_trans hg.size g2.size
  have hap2 := own_apart own ownB (by decide)
  have own2 := own.kept g2 (.inr (fun e => hap2 g e rfl))
  have hl2 : (ins ++ [v.1]).length = M.length + 1 := by simp [hil]
  refine ⟨S, P, c1, R, c2, V, c3, _, d, L, _, M ++ [v], p2, rfl, fun b hb => (bc b hb).keep hk sz, rfl, rfl, f1, f2, f3, f4, f5, par.keep hk sz, by simp [mi], by rw [hl2]; exact own2, fun u hu => ?_, fun k hs => ?_⟩
  · rcases List.mem_append.1 hu with hu | hu
    · exact (ic u hu).keep hk sz
    · rw [List.mem_singleton.1 hu]; exact hv.keep hk sz
  · rw [hl2]
    rcases hb with hb | hb
    · rw [hb]; exact oS k hs
    · rw [hb]; intro e; injection e with e; have := (hp.sS k hs).1; omega
end
end Go.Proofs.YtmhmpobjjhbklaaGreatDoor
set_option linter.unusedVariables false
set_option linter.unusedSimpArgs false
namespace Go.Proofs.YtmhmpobjjhbklaaGreatDoor
open Go.RowKit
open St (InR BV)
theorem info_sins2 : ∃ z b, (Tryz.prog.info? 48).map (fun i => (i.zero, i.size, i.bytes)) = some (some z, 7, b) ∧ z.cells.size = 7 ∧ b ≤ 1000 := ⟨.agg #[.int .i64 0, .int .i64 0, .int .i64 0, .int .i64 0, .int .u64 0, .slice none 0 0, .slice none 0 0], 88, by kernel_rfl, by kernel_rfl, by decide⟩
theorem one_ins (W : World) (x : St.Ins) (A : Option Addr) (c : Nat) (B : Option Addr) (d : Nat) : Reads (W.alloc (.cells (insC x A c B d) 48)) (W.alloc (.cells (insC x A c B d) 48)).heap.size 7 (some ⟨W.heap.size, 0, none⟩) 1 ([((x, (A, c), B, d) : IV)].flatMap encI) :=
  block_reads (cs := insC x A c B d) rfl (heap_alloc_new W _)
theorem OAt.insCell {w0 W : World} {Kp : Nat} {S : Nat → Prop} {P R V : Option Addr} {c1 c2 c3 d g : Nat} {ps rs vals : List Int} {L : List BV} {cur : BV} {M : List IV} {n : Int} (h : OAt w0 W Kp S P c1 R c2 V c3 g d ps rs vals L cur M n) : W.cell? ⟨g, L.length * 7 + 1, none⟩ = some (.slice cur.Ai M.length cur.ci) ∧ W.frozen? ⟨g, L.length * 7 + 1, none⟩ = false ∧ g < W.heap.size := by
  obtain ⟨g2, hgg, -, hlt, hc, hf⟩ := own_cells h.p.own (i := L.length * 7 + 1) (by rw [flat_len encB_len]; simp; omega)
  cases hgg
  refine ⟨?_, hf, hlt⟩
  rw [hc]
  have h1 := flat_at encB_len (L ++ [cur]) L.length (by simp) 1 (by omega)
  rw [List.getElem?_eq_getElem (by rw [flat_len encB_len]; simp; omega)] at h1
  rw [h1]
  have hl : cur.ins.length = M.length := by rw [← h.mi]; simp
  simp [encB, hl]
theorem OAt.appFacts {w0 W W' : World} {Kp : Nat} {S : Nat → Prop} {P R V : Option Addr} {c1 c2 c3 d g : Nat} {ps rs vals : List Int} {L : List BV} {cur : BV} {M : List IV} {n : Int} (h : OAt w0 W Kp S P c1 R c2 V c3 g d ps rs vals L cur M n) (hg : W.grownBy W' (Value.slice cur.Ai M.length cur.ci).ownBlock) : W'.cell? ⟨g, L.length * 7 + 1, none⟩ = some (.slice cur.Ai M.length cur.ci) ∧ W'.frozen? ⟨g, L.length * 7 + 1, none⟩ = false ∧ g < W'.heap.size := by
  obtain ⟨h1, h2, h3⟩ := h.insCell
  have hne : some g ≠ (Value.slice cur.Ai M.length cur.ci).ownBlock := fun e => own_apart h.own h.p.own (by decide) g e.symm rfl
  exact ⟨hg.cell h1 hne, (World.frozen?_of_block (hg.block g h3 hne)).trans h2, Nat.lt_of_lt_of_le h3 hg.size⟩
theorem POp.bel {w0 W : World} {Kp : Nat} {x : St.Ssa} {params : List Int} {ins : List St.Ins} {n : Int} (h : POp w0 W Kp x params ins n) : Below w0.heap.size w0 W := by
  obtain ⟨_, _, _, _, _, _, _, _, _, _, _, _, h, _⟩ := h
  exact h.bel
/-- What a line inside a block comes to. -/
def LineIOut (w0 w' : World) (Kp : Nat) (x : St.Ssa) (params : List Int) (ins : List St.Ins) (n : Nat) (s : St.W) (e : Ending) : Prop :=
  Below w0.heap.size w0 w' ∧ (if (St.finP s).2 then e = .returned (.bool true) ∧ PCl w0 w' Kp ⟨x.ps, x.rs, x.vals, x.blocks ++ [⟨params, ins, (St.finP s).1⟩]⟩ (n + 1 : Nat)
    else e = .returned (.bool (St.insP s).2) ∧ ((St.insP s).2 = true → POp w0 w' Kp x params (ins ++ [(St.insP s).1]) (n + 1 : Nat)))

set_option maxHeartbeats 8000000 in
set_option maxRecDepth 100000 in
theorem lineI_any (w0 : World) (Kp : Nat) (s : St.W) (hs : s.length ≤ 900000) (hp : (Lib.fieldsD s).length ≤ 5000) (w : World) (G : Glob w0) (x : St.Ssa) (params : List Int) (ins : List St.Ins) (n : Nat) (hn : 2 ≤ n) (hn2 : n ≤ 1000000) (hbl : x.blocks.length ≤ 1000000) (hil : ins.length ≤ 1000000) (h : POp w0 w Kp x params ins n) :
    Calls Tryz.prog 29 #[.pointer (some ⟨Kp, 0, none⟩), .string ⟨s.toArray⟩] w fun e w' => LineIOut w0 w' Kp x params ins n s e := by
  have HE := Lib.hid (fun W (G : Glob W) => sreadEnd_any s (by omega) (by omega) W G)
  have HI := Lib.hid (fun W (G : Glob W) => sreadIns_any s (by omega) (by omega) W G)
  obtain ⟨⟨f, fb⟩, hfp⟩ : ∃ y, St.finP s = y := ⟨_, rfl⟩
  obtain ⟨⟨y, yb⟩, hip⟩ : ∃ y, St.insP s = y := ⟨_, rfl⟩
  rw [hfp] at HE
  rw [hip] at HI
  have HO : Hid (∀ w' e, (Below w0.heap.size w0 w' ∧ (if fb = true then e = .returned (.bool true) ∧ PCl w0 w' Kp ⟨x.ps, x.rs, x.vals, x.blocks ++ [⟨params, ins, f⟩]⟩ (n + 1 : Nat) else e = .returned (.bool yb) ∧ (yb = true → POp w0 w' Kp x params (ins ++ [y]) (n + 1 : Nat)))) → LineIOut w0 w' Kp x params ins n s e) := Lib.hid (fun w' e h => by unfold LineIOut; rw [hfp, hip]; exact h)
  have HG := Lib.hid G
  clear hfp hip G
  have hw := wrap_next n hn2
  have x1 : ¬ ((n : Int) + 1 = 1) := by omega
  have x2 : ¬ ((n : Int) + 1 = 2) := by omega
  obtain ⟨zI, bI, hinfo, hzs, hbb⟩ := info_sins2
  obtain ⟨i0, hi0, hz0, hz1, hz2⟩ := info_parts hinfo
  obtain ⟨S, P, c1, R, c2, V, c3, g, d, L, cur, M, hA, hL, rfl, rfl⟩ := OAt.of x params ins h
  have hLl : L.length ≤ 1000000 := by rw [← hL] at hbl; simpa using hbl
  have hMl : M.length ≤ 1000000 := by rw [← hA.mi] at hil; simpa using hil
  have hA1 := hA.setN ((n : Int) + 1)
  obtain ⟨⟨q0, q1, q2, q3, q4, q5⟩, hz⟩ := hA.p.cells
  have hz4 := hz 4
  have hlt := hA.p.lt
  clear hz hA
  obtain ⟨⟨k0, k1, k2, k3, k4, k5⟩, hy⟩ := hA1.p.cells
  have HA := Lib.hid hA1
  have HL := Lib.hid hL
  clear hA1 hy hL
  rw [List.length_append, List.length_singleton] at q3 k3
  go_enter Tryz.func29, Tryz.ntmps29
  go_upto_region 18 with fail
  refine at_code (F := fun W => OAt w0 W Kp S P c1 R c2 V c3 g d x.ps x.rs x.vals L cur M ((n : Int) + 1)) HA.out ?_
  clear HA k0 k1 k2 k3 k4 k5 q0 q1 q2 q3 q4 q5 hz4 hlt hw x1 x2
  intro W HA
  have HA' := Lib.hid (HA.below (below_drewN W 1))
  obtain ⟨⟨-, -, -, k3, -, -⟩, -⟩ := HA.p.cells
  rw [List.length_append, List.length_singleton] at k3
  have hlt := HA.p.lt
  obtain ⟨g', hgg, hg0, hg1, -⟩ := own_cells HA.p.own (i := 0) (by rw [flat_len encB_len]; simp)
  cases hgg
  clear HA
  have w1 : IntKind.i64.wrap (L.length : Int) = (L.length : Int) := by rw [IntKind.wrap_i64]; omega
  have w3 : (0 : Int) ≤ (L.length : Int) := by omega
  have w4 : (L.length : Int) < (L.length : Int) + 1 := by omega
  have w2 : ¬ (L.length + 1 = 0) := by omega
  have SS : (fun W' => W'.cell? ⟨Kp, 3, none⟩ = some (.slice (some ⟨g, 0, none⟩) (L.length + 1) d)) (World.drew W) := k3
  dsimp only at SS
  refine wp_region_held_drew (S := (fun W' => W'.cell? ⟨Kp, 3, none⟩ = some (.slice (some ⟨g, 0, none⟩) (L.length + 1) d))) (by kernel_rfl) ?_ (fun hHeld0 => ?_)
  · first | assumption | go_keep
  refine tk (i := 0) (oi := ⟨some 111, .move (.tmp 0), 63, "stext.go:305", #[], none⟩) rfl ?_; (try simp only [Act.put, List.setIfInBounds_toArray, List.set_cons_succ, List.set_cons_zero])
  refine tk (i := 1) (oi := ⟨some 112, .nilCheck (.tmp 111), 0, "stext.go:305", #[⟨0, .data⟩], none⟩) rfl ?_; (try simp only [Act.put, List.setIfInBounds_toArray, List.set_cons_succ, List.set_cons_zero])
  refine tk (i := 2) (oi := ⟨some 113, .fieldAddr 65 (.tmp 112) 0, 0, "stext.go:305", #[⟨1, .data⟩], none⟩) rfl ?_; (try simp only [Act.put, List.setIfInBounds_toArray, List.set_cons_succ, List.set_cons_zero])
  refine tk (i := 3) (oi := ⟨some 114, .fieldAddr 27 (.tmp 113) 2, 0, "stext.go:305", #[⟨2, .data⟩], none⟩) rfl ?_; (try simp only [Act.put, List.setIfInBounds_toArray, List.set_cons_succ, List.set_cons_zero])
  refine tk (i := 4) (oi := ⟨some 115, .load 25 (.tmp 114), 25, "stext.go:305", #[⟨3, .data⟩], none⟩) rfl ?_; (try simp only [Act.put, List.setIfInBounds_toArray, List.set_cons_succ, List.set_cons_zero])
  refine tk (i := 5) (oi := ⟨some 116, .move (.tmp 0), 63, "stext.go:305", #[], none⟩) rfl ?_; (try simp only [Act.put, List.setIfInBounds_toArray, List.set_cons_succ, List.set_cons_zero])
  refine tk (i := 6) (oi := ⟨some 117, .nilCheck (.tmp 116), 0, "stext.go:305", #[⟨5, .data⟩], none⟩) rfl ?_; (try simp only [Act.put, List.setIfInBounds_toArray, List.set_cons_succ, List.set_cons_zero])
  refine tk (i := 7) (oi := ⟨some 118, .fieldAddr 65 (.tmp 117) 0, 0, "stext.go:305", #[⟨6, .data⟩], none⟩) rfl ?_; (try simp only [Act.put, List.setIfInBounds_toArray, List.set_cons_succ, List.set_cons_zero])
  refine tk (i := 8) (oi := ⟨some 119, .fieldAddr 27 (.tmp 118) 2, 0, "stext.go:305", #[⟨7, .data⟩], none⟩) rfl ?_; (try simp only [Act.put, List.setIfInBounds_toArray, List.set_cons_succ, List.set_cons_zero])
  refine tk (i := 9) (oi := ⟨some 120, .load 25 (.tmp 119), 25, "stext.go:305", #[⟨8, .data⟩], none⟩) rfl ?_; (try simp only [Act.put, List.setIfInBounds_toArray, List.set_cons_succ, List.set_cons_zero])
  refine tk (i := 10) (oi := ⟨some 121, .call { callee := .builtin .len, args := #[.tmp 120], argTypes := #[25] }, 3, "stext.go:305", #[⟨9, .data⟩], none⟩) rfl ?_; (try simp only [Act.put, List.setIfInBounds_toArray, List.set_cons_succ, List.set_cons_zero])
  refine tk (i := 11) (oi := ⟨some 122, .binOp .sub 3 (.tmp 121) (.const (.int .i64 1)) 3, 3, "stext.go:305", #[⟨10, .data⟩], none⟩) rfl ?_; (try simp only [Act.put, List.setIfInBounds_toArray, List.set_cons_succ, List.set_cons_zero])
  refine tk (i := 12) (oi := ⟨some 123, .indexAddr 25 (.tmp 115) (.tmp 122), 0, "stext.go:305", #[⟨4, .data⟩, ⟨11, .data⟩], none⟩) rfl ?_; (try simp only [Act.put, List.setIfInBounds_toArray, List.set_cons_succ, List.set_cons_zero])
  refine tk (i := 13) (oi := ⟨some 12, .assign (.tmp 123), 103, "stext.go:305", #[⟨12, .data⟩, ⟨0, .phase⟩, ⟨1, .phase⟩, ⟨2, .phase⟩, ⟨3, .phase⟩, ⟨4, .phase⟩, ⟨5, .phase⟩, ⟨6, .phase⟩, ⟨7, .phase⟩, ⟨8, .phase⟩, ⟨9, .phase⟩, ⟨10, .phase⟩, ⟨11, .phase⟩, ⟨12, .phase⟩], none⟩) rfl ?_; (try simp only [Act.put, List.setIfInBounds_toArray, List.set_cons_succ, List.set_cons_zero])
  refine wpAnyH_done (by kernel_rfl) ?_ _
  clear SS w1 w2 w3 w4
  go_upto_region 20 with (go_at_call 69; refine (HE.out _ (HG.out.below HA'.out.p.bel)).mono ?_; rintro e w3 ⟨⟨A, c, B2, d2, rfl, r1, r2⟩, hb⟩; unfold finC; dsimp only; dsimp only at r1 r2)
  have r1 : RdZ w3 (fun g => W.heap.size ≤ g) A f.args := r1
  have r2 : RdT w3 (fun g => W.heap.size ≤ g) B2 2 (EdgeAt (fun g => W.heap.size ≤ g)) f.edges := r2
  obtain ⟨N, hN⟩ : ∃ N, W.heap.size = N := ⟨_, rfl⟩
  rw [hN] at r1 r2
  have hNK : Kp < N := by rw [← hN]; exact HA'.out.p.lt
  have HM := (HA'.out.below hb).more (N := N) hNK (by rw [← hN]; exact HA'.out.p.ownlt) (by rw [← hN]; exact fun j hj => (HA'.out.own.lt j hj).2)
  obtain ⟨S', hS'⟩ : ∃ S', (fun k => S k ∨ (N ≤ k ∧ k < w3.heap.size)) = S' := ⟨_, rfl⟩
  have e1 : RdZ w3 S' A f.args := by rw [← hS']; exact r1.mono fun k h1 h2 => .inr ⟨h2, h1⟩
  have e2 : RdT w3 S' B2 2 (EdgeAt S') f.edges := by rw [← hS']; exact RdT.mono r2 (fun k h1 h2 => .inr ⟨h2, h1⟩) (EdgeAt.mono fun k h1 h2 => .inr ⟨h2, h1⟩)
  rw [hS'] at HM
  have ha := (Below.refl w3.heap.size w3).alloc (Nat.le_refl _) (.cells #[.int .i64 f.kind, .int .i64 f.cond, .slice A f.args.length c, .slice B2 f.edges.length d2, .int .i64 f.trap] 42)
  have hK13 : Kp < w3.heap.size := HM.p.lt
  refine at_code (F := fun W => OAt w0 W Kp S' P c1 R c2 V c3 g d x.ps x.rs x.vals L cur M ((n : Int) + 1) ∧ Var W w3.heap.size #[.int .i64 f.kind, .int .i64 f.cond, .slice A f.args.length c, .slice B2 f.edges.length d2, .int .i64 f.trap] 42 ∧ RdZ W S' A f.args ∧ RdT W S' B2 2 (EdgeAt S') f.edges) ⟨HM.below ha, Var.new _ _ _, e1.on ha, e2.keep (fun g o x hs' hx => EdgeAt.keep (Below.keep ha S') ha.size g o x hs' hx) ha.size⟩ ?_
  clear HM e1 e2 ha hS' r1 r2 hb HA' hNK hN HE k3 hg1 hlt
  obtain ⟨K3, hk3⟩ : ∃ K, w3.heap.size = K := ⟨_, rfl⟩
  rw [hk3] at hK13
  simp only [hk3]
  clear hk3
  rintro W2 ⟨HA, V3, e1, e2⟩
  obtain ⟨⟨m0, m1, m2, m3, m4, m5⟩, my⟩ := HA.p.cells
  have my5 := my 5
  have hlt := HA.p.lt
  have hKg : ¬ (Kp = g) := by omega
  have hgK : ¬ (g = Kp) := by omega
  have hOB : ∀ j, j < 7 → ∃ v, W2.cell? ⟨g, L.length * 7 + j, none⟩ = some v ∧ W2.frozen? ⟨g, L.length * 7 + j, none⟩ = false := fun j hj => by
    obtain ⟨g2, hgg, -, -, hc, hf⟩ := own_cells HA.p.own (i := L.length * 7 + j) (by rw [flat_len encB_len]; simp; omega)
    cases hgg
    exact ⟨_, hc, hf⟩
  have hglt : g < W2.heap.size := (HA.p.own.lt g rfl).2
  have hlt3 := V3.lt
  rcases fb with _ | _
  · clear e1 e2 V3 m0 m1 m2 m3 m4 m5 my my5 hOB hlt3
    go_upto_region 25 with (go_at_call 70; refine (HI.out _ (HG.out.below HA.p.bel)).mono ?_; rintro e w4 ⟨⟨A4, c4, B4, d4, rfl, r1, r2⟩, hb⟩; unfold insC; dsimp only; dsimp only at r1 r2)
    obtain ⟨N, hN⟩ : ∃ N, W2.heap.size = N := ⟨_, rfl⟩
    rw [hN] at r1 r2
    have hNK : Kp < N := by rw [← hN]; exact HA.p.lt
    have HM := (HA.below hb).more (N := N) hNK (by rw [← hN]; exact HA.p.ownlt) (by rw [← hN]; exact fun j hj => (HA.own.lt j hj).2)
    obtain ⟨S3, hS3⟩ : ∃ S3, (fun k => S' k ∨ (N ≤ k ∧ k < w4.heap.size)) = S3 := ⟨_, rfl⟩
    have e1 : RdZ w4 S3 A4 y.args := by rw [← hS3]; exact r1.mono fun k h1 h2 => .inr ⟨h2, h1⟩
    have e2 : RdZ w4 S3 B4 y.outs := by rw [← hS3]; exact r2.mono fun k h1 h2 => .inr ⟨h2, h1⟩
    rw [hS3] at HM
    have ha := (Below.refl w4.heap.size w4).alloc (Nat.le_refl _) (.cells #[.int .i64 y.kind, .int .i64 y.op, .int .i64 y.a, .int .i64 y.b, .int .u64 (y.n : Int), .slice A4 y.args.length c4, .slice B4 y.outs.length d4] 48)
    refine at_code (F := fun W => OAt w0 W Kp S3 P c1 R c2 V c3 g d x.ps x.rs x.vals L cur M ((n : Int) + 1) ∧ Var W w4.heap.size #[.int .i64 y.kind, .int .i64 y.op, .int .i64 y.a, .int .i64 y.b, .int .u64 (y.n : Int), .slice A4 y.args.length c4, .slice B4 y.outs.length d4] 48 ∧ IC S3 W ((y, (A4, c4), B4, d4) : IV)) ⟨HM.below ha, Var.new _ _ _, e1.on ha, e2.on ha⟩ ?_
    clear HM e1 e2 ha hS3 r1 r2 hb HA hNK hN HI hlt hglt
    obtain ⟨K5, hk5⟩ : ∃ K, w4.heap.size = K := ⟨_, rfl⟩
    simp only [hk5]
    clear hk5
    rintro W4 ⟨HA, V5, hic⟩
    have HAD : OAt w0 (World.drew W4) Kp S3 P c1 R c2 V c3 g d x.ps x.rs x.vals L cur M ((n : Int) + 1) := HA.below (below_drewN W4 1)
    have ICD : IC S3 (World.drew W4) ((y, (A4, c4), B4, d4) : IV) := hic.keep (Below.keep (below_drewN W4 1) S3) (below_drewN W4 1).size
    have VD : Var (World.drew W4) K5 #[.int .i64 y.kind, .int .i64 y.op, .int .i64 y.a, .int .i64 y.b, .int .u64 (y.n : Int), .slice A4 y.args.length c4, .slice B4 y.outs.length d4] 48 := V5
    obtain ⟨i1, i2, i3⟩ := HAD.insCell
    obtain ⟨v0, v1, v2, v3, v4, v5, v6⟩ := cells7 VD
    have hlt := HAD.p.lt
    clear HA V5 hic
    refine wp_region_held_drew (S := (fun _ => True)) (by kernel_rfl) ?_ (fun hHeld0 => ?_)
    · first | assumption | go_keep
    refine tk (i := 0) (oi := ⟨some 142, .move (.tmp 12), 103, "stext.go:312", #[], none⟩) rfl ?_; (try simp only [Act.put, List.setIfInBounds_toArray, List.set_cons_succ, List.set_cons_zero])
    refine tk (i := 1) (oi := ⟨some 143, .move (.tmp 12), 103, "stext.go:312", #[], none⟩) rfl ?_; (try simp only [Act.put, List.setIfInBounds_toArray, List.set_cons_succ, List.set_cons_zero])
    refine tk (i := 2) (oi := ⟨some 144, .nilCheck (.tmp 143), 0, "stext.go:312", #[⟨1, .data⟩], none⟩) rfl ?_; (try simp only [Act.put, List.setIfInBounds_toArray, List.set_cons_succ, List.set_cons_zero])
    refine tk (i := 3) (oi := ⟨some 145, .fieldAddr 44 (.tmp 144) 1, 0, "stext.go:312", #[⟨2, .data⟩], none⟩) rfl ?_; (try simp only [Act.put, List.setIfInBounds_toArray, List.set_cons_succ, List.set_cons_zero])
    refine wpAnyH_ready (rs := [4, 5]) (by kernel_rfl) (by simp) ?_
    refine (AllReadyH.cons (o := ⟨some 146, .load 38 (.tmp 145), 38, "stext.go:312", #[⟨3, .data⟩], none⟩) rfl (fun K hK => ?_) (AllReadyH.cons (o := ⟨some 147, .load 48 (.tmp 15), 48, "stext.go:312", #[], none⟩) rfl (fun K hK => ?_) AllReadyH.nil))
    · skip
      go_simp
      skip
      (try dsimp only)
      refine hK.out _ _ ?_ (fun hHeld1 => ?_)
      · first | trivial | ((try dsimp only); first | assumption | trivial | go_keep)
      clear hK K hHeld0
      (try simp only [Act.put, List.setIfInBounds_toArray, List.set_cons_succ, List.set_cons_zero])
      refine wpAnyH_ready (rs := [5]) (by kernel_rfl) (by simp) ?_
      refine (AllReadyH.cons (o := ⟨some 147, .load 48 (.tmp 15), 48, "stext.go:312", #[], none⟩) rfl (fun K hK => ?_) AllReadyH.nil)
      go_simp
      skip
      (try dsimp only)
      refine hK.out _ _ ?_ (fun hHeld2 => ?_)
      · first | trivial | ((try dsimp only); first | assumption | trivial | go_keep)
      clear hK K hHeld1
      (try simp only [Act.put, List.setIfInBounds_toArray, List.set_cons_succ, List.set_cons_zero])
      refine wpAnyH_ready (rs := [6]) (by kernel_rfl) (by simp) ?_
      refine (AllReadyH.cons (o := ⟨some 148, .buildSlice 38 1 #[(0, .tmp 147)], 38, "stext.go:312", #[⟨5, .data⟩], none⟩) rfl (fun K hK => ?_) AllReadyH.nil)
      go_simp
      (have haa := (Below.refl (World.drew W4).heap.size (World.drew W4)).alloc (Nat.le_refl _) (.cells #[.int .i64 y.kind, .int .i64 y.op, .int .i64 y.a, .int .i64 y.b, .int .u64 (y.n : Int), .slice A4 y.args.length c4, .slice B4 y.outs.length d4] 48); have HAA := HAD.below haa; have ICA := ICD.keep (Below.keep haa S3) haa.size; obtain ⟨j1, j2, j3⟩ := HAA.insCell; have j1w : (W4.alloc (.cells #[.int .i64 y.kind, .int .i64 y.op, .int .i64 y.a, .int .i64 y.b, .int .u64 (y.n : Int), .slice A4 y.args.length c4, .slice B4 y.outs.length d4] 48)).cell? ⟨g, L.length * 7 + 1, none⟩ = some (.slice cur.Ai M.length cur.ci) := j1)
      (try dsimp only)
      refine hK.out _ _ ?_ (fun hHeld3 => ?_)
      · first | trivial | ((try dsimp only); first | assumption | trivial | go_keep)
      clear hK K hHeld2
      (try simp only [Act.put, List.setIfInBounds_toArray, List.set_cons_succ, List.set_cons_zero])
      refine wpAnyH_ready (rs := [7]) (by kernel_rfl) (by simp) ?_
      refine (AllReadyH.cons (o := ⟨some 149, .call { callee := .builtin .append, args := #[.tmp 146, .tmp 148], argTypes := #[38, 38] }, 38, "stext.go:312", #[⟨4, .data⟩, ⟨6, .data⟩], none⟩) rfl (fun K hK => ?_) AllReadyH.nil)
      (refine step_app2 Tryz.underlying38 hi0 hz0 hz1 hz2 hzs (by omega) encI_len encI_one _ rfl (.tmp 146) (.tmp 148) rfl (Kp + 1) (.slice cur.Ai M.length cur.ci) M.length M (by rfl) HAA.own [((y, (A4, c4), B4, d4) : IV)] 1 1 _ rfl (by rfl) (one_ins (World.drew W4) y A4 c4 B4 d4) (by omega) hbb HAA.p.lt ?_; intro A' c' w6 own6 hg6 hob6; have POK := HAA.app ICA own6 hg6 hob6; obtain ⟨n1, n2, n3⟩ := HAA.appFacts hg6)
      (try dsimp only)
      refine hK.out _ _ ?_ (fun hHeld4 => ?_)
      · first | trivial | ((try dsimp only); first | assumption | trivial | go_keep)
      clear hK K hHeld3
      (try simp only [Act.put, List.setIfInBounds_toArray, List.set_cons_succ, List.set_cons_zero])
      refine tk (i := 8) (oi := ⟨some 150, .nilCheck (.tmp 142), 0, "stext.go:312", #[⟨0, .data⟩, ⟨0, .phase⟩, ⟨1, .phase⟩, ⟨2, .phase⟩, ⟨3, .phase⟩, ⟨4, .phase⟩, ⟨5, .phase⟩, ⟨6, .phase⟩, ⟨7, .phase⟩], none⟩) rfl ?_; (try simp only [Act.put, List.setIfInBounds_toArray, List.set_cons_succ, List.set_cons_zero])
      refine tk (i := 9) (oi := ⟨some 151, .fieldAddr 44 (.tmp 150) 1, 0, "stext.go:312", #[⟨8, .data⟩, ⟨0, .phase⟩, ⟨1, .phase⟩, ⟨2, .phase⟩, ⟨3, .phase⟩, ⟨4, .phase⟩, ⟨5, .phase⟩, ⟨6, .phase⟩, ⟨7, .phase⟩], none⟩) rfl ?_; (try simp only [Act.put, List.setIfInBounds_toArray, List.set_cons_succ, List.set_cons_zero])
      refine wpAnyH_ready (rs := [10]) (by kernel_rfl) (by simp) ?_
      refine (AllReadyH.cons (o := ⟨none, .store 38 (.tmp 151) (.tmp 149), 0, "stext.go:312", #[⟨9, .data⟩, ⟨7, .data⟩, ⟨7, .chain⟩, ⟨0, .phase⟩, ⟨1, .phase⟩, ⟨2, .phase⟩, ⟨3, .phase⟩, ⟨4, .phase⟩, ⟨5, .phase⟩, ⟨6, .phase⟩, ⟨7, .phase⟩], none⟩) rfl (fun K hK => ?_) AllReadyH.nil)
      go_simp
      skip
      (try dsimp only)
      refine hK.out _ _ ?_ (fun hHeld5 => ?_)
      · first | trivial | ((try dsimp only); first | assumption | trivial | go_keep)
      clear hK K hHeld4
      (try simp only [Act.put, List.setIfInBounds_toArray, List.set_cons_succ, List.set_cons_zero])
      refine wpAnyH_done (by kernel_rfl) ?_ _
      (try dsimp only)
      repeat (first | go_values | go_skip | go_guarded | go_step | go_upon)
      rw [HL.out] at POK
      go_ret
      refine HO.out _ _ ⟨POK.bel, ?_⟩
      rw [if_neg (by decide)]
      exact ⟨rfl, fun _ => POK⟩
    · skip
      go_simp
      skip
      (try dsimp only)
      refine hK.out _ _ ?_ (fun hHeld1 => ?_)
      · first | trivial | ((try dsimp only); first | assumption | trivial | go_keep)
      clear hK K hHeld0
      (try simp only [Act.put, List.setIfInBounds_toArray, List.set_cons_succ, List.set_cons_zero])
      refine wpAnyH_ready (rs := [4, 6]) (by kernel_rfl) (by simp) ?_
      refine (AllReadyH.cons (o := ⟨some 146, .load 38 (.tmp 145), 38, "stext.go:312", #[⟨3, .data⟩], none⟩) rfl (fun K hK => ?_) (AllReadyH.cons (o := ⟨some 148, .buildSlice 38 1 #[(0, .tmp 147)], 38, "stext.go:312", #[⟨5, .data⟩], none⟩) rfl (fun K hK => ?_) AllReadyH.nil))
      · skip
        go_simp
        skip
        (try dsimp only)
        refine hK.out _ _ ?_ (fun hHeld2 => ?_)
        · first | trivial | ((try dsimp only); first | assumption | trivial | go_keep)
        clear hK K hHeld1
        (try simp only [Act.put, List.setIfInBounds_toArray, List.set_cons_succ, List.set_cons_zero])
        refine wpAnyH_ready (rs := [6]) (by kernel_rfl) (by simp) ?_
        refine (AllReadyH.cons (o := ⟨some 148, .buildSlice 38 1 #[(0, .tmp 147)], 38, "stext.go:312", #[⟨5, .data⟩], none⟩) rfl (fun K hK => ?_) AllReadyH.nil)
        go_simp
        (have haa := (Below.refl (World.drew W4).heap.size (World.drew W4)).alloc (Nat.le_refl _) (.cells #[.int .i64 y.kind, .int .i64 y.op, .int .i64 y.a, .int .i64 y.b, .int .u64 (y.n : Int), .slice A4 y.args.length c4, .slice B4 y.outs.length d4] 48); have HAA := HAD.below haa; have ICA := ICD.keep (Below.keep haa S3) haa.size; obtain ⟨j1, j2, j3⟩ := HAA.insCell; have j1w : (W4.alloc (.cells #[.int .i64 y.kind, .int .i64 y.op, .int .i64 y.a, .int .i64 y.b, .int .u64 (y.n : Int), .slice A4 y.args.length c4, .slice B4 y.outs.length d4] 48)).cell? ⟨g, L.length * 7 + 1, none⟩ = some (.slice cur.Ai M.length cur.ci) := j1)
        (try dsimp only)
        refine hK.out _ _ ?_ (fun hHeld3 => ?_)
        · first | trivial | ((try dsimp only); first | assumption | trivial | go_keep)
        clear hK K hHeld2
        (try simp only [Act.put, List.setIfInBounds_toArray, List.set_cons_succ, List.set_cons_zero])
        refine wpAnyH_ready (rs := [7]) (by kernel_rfl) (by simp) ?_
        refine (AllReadyH.cons (o := ⟨some 149, .call { callee := .builtin .append, args := #[.tmp 146, .tmp 148], argTypes := #[38, 38] }, 38, "stext.go:312", #[⟨4, .data⟩, ⟨6, .data⟩], none⟩) rfl (fun K hK => ?_) AllReadyH.nil)
        (refine step_app2 Tryz.underlying38 hi0 hz0 hz1 hz2 hzs (by omega) encI_len encI_one _ rfl (.tmp 146) (.tmp 148) rfl (Kp + 1) (.slice cur.Ai M.length cur.ci) M.length M (by rfl) HAA.own [((y, (A4, c4), B4, d4) : IV)] 1 1 _ rfl (by rfl) (one_ins (World.drew W4) y A4 c4 B4 d4) (by omega) hbb HAA.p.lt ?_; intro A' c' w6 own6 hg6 hob6; have POK := HAA.app ICA own6 hg6 hob6; obtain ⟨n1, n2, n3⟩ := HAA.appFacts hg6)
        (try dsimp only)
        refine hK.out _ _ ?_ (fun hHeld4 => ?_)
        · first | trivial | ((try dsimp only); first | assumption | trivial | go_keep)
        clear hK K hHeld3
        (try simp only [Act.put, List.setIfInBounds_toArray, List.set_cons_succ, List.set_cons_zero])
        refine tk (i := 8) (oi := ⟨some 150, .nilCheck (.tmp 142), 0, "stext.go:312", #[⟨0, .data⟩, ⟨0, .phase⟩, ⟨1, .phase⟩, ⟨2, .phase⟩, ⟨3, .phase⟩, ⟨4, .phase⟩, ⟨5, .phase⟩, ⟨6, .phase⟩, ⟨7, .phase⟩], none⟩) rfl ?_; (try simp only [Act.put, List.setIfInBounds_toArray, List.set_cons_succ, List.set_cons_zero])
        refine tk (i := 9) (oi := ⟨some 151, .fieldAddr 44 (.tmp 150) 1, 0, "stext.go:312", #[⟨8, .data⟩, ⟨0, .phase⟩, ⟨1, .phase⟩, ⟨2, .phase⟩, ⟨3, .phase⟩, ⟨4, .phase⟩, ⟨5, .phase⟩, ⟨6, .phase⟩, ⟨7, .phase⟩], none⟩) rfl ?_; (try simp only [Act.put, List.setIfInBounds_toArray, List.set_cons_succ, List.set_cons_zero])
        refine wpAnyH_ready (rs := [10]) (by kernel_rfl) (by simp) ?_
        refine (AllReadyH.cons (o := ⟨none, .store 38 (.tmp 151) (.tmp 149), 0, "stext.go:312", #[⟨9, .data⟩, ⟨7, .data⟩, ⟨7, .chain⟩, ⟨0, .phase⟩, ⟨1, .phase⟩, ⟨2, .phase⟩, ⟨3, .phase⟩, ⟨4, .phase⟩, ⟨5, .phase⟩, ⟨6, .phase⟩, ⟨7, .phase⟩], none⟩) rfl (fun K hK => ?_) AllReadyH.nil)
        go_simp
        skip
        (try dsimp only)
        refine hK.out _ _ ?_ (fun hHeld5 => ?_)
        · first | trivial | ((try dsimp only); first | assumption | trivial | go_keep)
        clear hK K hHeld4
        (try simp only [Act.put, List.setIfInBounds_toArray, List.set_cons_succ, List.set_cons_zero])
        refine wpAnyH_done (by kernel_rfl) ?_ _
        (try dsimp only)
        repeat (first | go_values | go_skip | go_guarded | go_step | go_upon)
        rw [HL.out] at POK
        go_ret
        refine HO.out _ _ ⟨POK.bel, ?_⟩
        rw [if_neg (by decide)]
        exact ⟨rfl, fun _ => POK⟩
      · skip
        go_simp
        (have haa := (Below.refl (World.drew W4).heap.size (World.drew W4)).alloc (Nat.le_refl _) (.cells #[.int .i64 y.kind, .int .i64 y.op, .int .i64 y.a, .int .i64 y.b, .int .u64 (y.n : Int), .slice A4 y.args.length c4, .slice B4 y.outs.length d4] 48); have HAA := HAD.below haa; have ICA := ICD.keep (Below.keep haa S3) haa.size; obtain ⟨j1, j2, j3⟩ := HAA.insCell; have j1w : (W4.alloc (.cells #[.int .i64 y.kind, .int .i64 y.op, .int .i64 y.a, .int .i64 y.b, .int .u64 (y.n : Int), .slice A4 y.args.length c4, .slice B4 y.outs.length d4] 48)).cell? ⟨g, L.length * 7 + 1, none⟩ = some (.slice cur.Ai M.length cur.ci) := j1)
        (try dsimp only)
        refine hK.out _ _ ?_ (fun hHeld2 => ?_)
        · first | trivial | ((try dsimp only); first | assumption | trivial | go_keep)
        clear hK K hHeld1
        (try simp only [Act.put, List.setIfInBounds_toArray, List.set_cons_succ, List.set_cons_zero])
        refine wpAnyH_ready (rs := [4]) (by kernel_rfl) (by simp) ?_
        refine (AllReadyH.cons (o := ⟨some 146, .load 38 (.tmp 145), 38, "stext.go:312", #[⟨3, .data⟩], none⟩) rfl (fun K hK => ?_) AllReadyH.nil)
        go_simp
        skip
        (try dsimp only)
        refine hK.out _ _ ?_ (fun hHeld3 => ?_)
        · first | trivial | ((try dsimp only); first | assumption | trivial | go_keep)
        clear hK K hHeld2
        (try simp only [Act.put, List.setIfInBounds_toArray, List.set_cons_succ, List.set_cons_zero])
        refine wpAnyH_ready (rs := [7]) (by kernel_rfl) (by simp) ?_
        refine (AllReadyH.cons (o := ⟨some 149, .call { callee := .builtin .append, args := #[.tmp 146, .tmp 148], argTypes := #[38, 38] }, 38, "stext.go:312", #[⟨4, .data⟩, ⟨6, .data⟩], none⟩) rfl (fun K hK => ?_) AllReadyH.nil)
        (refine step_app2 Tryz.underlying38 hi0 hz0 hz1 hz2 hzs (by omega) encI_len encI_one _ rfl (.tmp 146) (.tmp 148) rfl (Kp + 1) (.slice cur.Ai M.length cur.ci) M.length M (by rfl) HAA.own [((y, (A4, c4), B4, d4) : IV)] 1 1 _ rfl (by rfl) (one_ins (World.drew W4) y A4 c4 B4 d4) (by omega) hbb HAA.p.lt ?_; intro A' c' w6 own6 hg6 hob6; have POK := HAA.app ICA own6 hg6 hob6; obtain ⟨n1, n2, n3⟩ := HAA.appFacts hg6)
        (try dsimp only)
        refine hK.out _ _ ?_ (fun hHeld4 => ?_)
        · first | trivial | ((try dsimp only); first | assumption | trivial | go_keep)
        clear hK K hHeld3
        (try simp only [Act.put, List.setIfInBounds_toArray, List.set_cons_succ, List.set_cons_zero])
        refine tk (i := 8) (oi := ⟨some 150, .nilCheck (.tmp 142), 0, "stext.go:312", #[⟨0, .data⟩, ⟨0, .phase⟩, ⟨1, .phase⟩, ⟨2, .phase⟩, ⟨3, .phase⟩, ⟨4, .phase⟩, ⟨5, .phase⟩, ⟨6, .phase⟩, ⟨7, .phase⟩], none⟩) rfl ?_; (try simp only [Act.put, List.setIfInBounds_toArray, List.set_cons_succ, List.set_cons_zero])
        refine tk (i := 9) (oi := ⟨some 151, .fieldAddr 44 (.tmp 150) 1, 0, "stext.go:312", #[⟨8, .data⟩, ⟨0, .phase⟩, ⟨1, .phase⟩, ⟨2, .phase⟩, ⟨3, .phase⟩, ⟨4, .phase⟩, ⟨5, .phase⟩, ⟨6, .phase⟩, ⟨7, .phase⟩], none⟩) rfl ?_; (try simp only [Act.put, List.setIfInBounds_toArray, List.set_cons_succ, List.set_cons_zero])
        refine wpAnyH_ready (rs := [10]) (by kernel_rfl) (by simp) ?_
        refine (AllReadyH.cons (o := ⟨none, .store 38 (.tmp 151) (.tmp 149), 0, "stext.go:312", #[⟨9, .data⟩, ⟨7, .data⟩, ⟨7, .chain⟩, ⟨0, .phase⟩, ⟨1, .phase⟩, ⟨2, .phase⟩, ⟨3, .phase⟩, ⟨4, .phase⟩, ⟨5, .phase⟩, ⟨6, .phase⟩, ⟨7, .phase⟩], none⟩) rfl (fun K hK => ?_) AllReadyH.nil)
        go_simp
        skip
        (try dsimp only)
        refine hK.out _ _ ?_ (fun hHeld5 => ?_)
        · first | trivial | ((try dsimp only); first | assumption | trivial | go_keep)
        clear hK K hHeld4
        (try simp only [Act.put, List.setIfInBounds_toArray, List.set_cons_succ, List.set_cons_zero])
        refine wpAnyH_done (by kernel_rfl) ?_ _
        (try dsimp only)
        repeat (first | go_values | go_skip | go_guarded | go_step | go_upon)
        rw [HL.out] at POK
        go_ret
        refine HO.out _ _ ⟨POK.bel, ?_⟩
        rw [if_neg (by decide)]
        exact ⟨rfl, fun _ => POK⟩
  · obtain ⟨u2, b2, f2⟩ := hOB 2 (by omega)
    obtain ⟨u3, b3, f3⟩ := hOB 3 (by omega)
    obtain ⟨u4, b4, f4⟩ := hOB 4 (by omega)
    obtain ⟨u5, b5, f5⟩ := hOB 5 (by omega)
    obtain ⟨u6, b6, f6⟩ := hOB 6 (by omega)
    obtain ⟨d0, d1, d2', d3, d4⟩ := cells5 V3
    have HCl := Lib.hid (HA.close f (a := c) (c := d2) e1 e2)
    rw [HL.out] at HCl
    clear HA e1 e2 V3 m0 m1 m2 m3 m4 my hOB
    go_wp2_with fail
    go_ret
    refine HO.out _ _ ⟨?_, ?_⟩
    · obtain ⟨_, _, _, _, _, _, _, _, _, _, hz, _⟩ := HCl.out
      exact hz.bel
    · exact ⟨rfl, HCl.out⟩
end Go.Proofs.YtmhmpobjjhbklaaGreatDoor
