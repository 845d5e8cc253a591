/-
  Layer 40: functions in SSA form as plain data; what the world holds of them.
-/
import Derived.Test.YtmhmpobjjhbklaaGreatDoorSt2
set_option linter.unusedVariables false
set_option linter.unusedSimpArgs false
namespace Go.Proofs.YtmhmpobjjhbklaaGreatDoor
namespace St
structure Edge where
  tgt : Int
  args : List Int
structure Ins where
  kind : Int
  op : Int
  a : Int
  b : Int
  n : Nat
  args : List Int
  outs : List Int
structure Fin where
  kind : Int
  cond : Int
  args : List Int
  edges : List Edge
  trap : Int
structure Blk where
  params : List Int
  ins : List Ins
  fin : Fin
structure Ssa where
  ps : List Int
  rs : List Int
  vals : List Int
  blocks : List Blk
def Edge.Ok (e : Edge) : Prop := InR e.tgt ∧ e.args.length ≤ 10000 ∧ ∀ z ∈ e.args, InR z
structure Ins.Ok (x : Ins) : Prop where
  a : InR x.a
  b : InR x.b
  n : x.n < 18446744073709551616
  args : x.args.length ≤ 10000 ∧ ∀ z ∈ x.args, InR z
  outs : x.outs.length ≤ 10000 ∧ ∀ z ∈ x.outs, InR z
def ecount (l : List Edge) : Nat := (l.map fun e => e.args.length + 2).sum
structure Fin.Ok (x : Fin) : Prop where
  cond : InR x.cond
  args : x.args.length ≤ 10000 ∧ ∀ z ∈ x.args, InR z
  edges : ecount x.edges ≤ 20000 ∧ ∀ e ∈ x.edges, e.Ok
  trap : InR x.trap
structure Blk.Ok (x : Blk) : Prop where
  params : x.params.length ≤ 10000 ∧ ∀ z ∈ x.params, InR z
  ins : x.ins.length ≤ 10000 ∧ ∀ e ∈ x.ins, e.Ok
  fin : x.fin.Ok
structure Ssa.Ok (x : Ssa) : Prop where
  ps : x.ps.length ≤ 5000
  rs : x.rs.length ≤ 5000
  vals : x.vals.length ≤ 5000
  blocks : x.blocks.length ≤ 10000 ∧ ∀ e ∈ x.blocks, e.Ok

def kindw (x : Int) : List UInt8 := (word kindW x).1
def opT (op : Int) : List UInt8 := if op = 0 then [] else [111, 112, 32] ++ Opc.name op
def nT (n : Nat) : List UInt8 := if n = 0 then [] else [110, 32] ++ Lib.decDigits n
/-- The line of an instruction, as the program puts it together. -/
def insO (x : Ins) : List UInt8 := [32, 32] ++ join [kindw x.kind, opT x.op, number [97] x.a, number [98] x.b, nT x.n, list [111, 102] x.args, list [116, 111] x.outs]
def fin0 (x : Fin) : List UInt8 := join [[101, 110, 100], (word endW x.kind).1, number [111, 110] x.cond, list [111, 102] x.args]
def finGo (s : List UInt8) : List Edge → List UInt8
  | [] => s
  | e :: l => finGo (join [s, [116, 111], Lib.itoa e.tgt, row e.args]) l
def finO (x : Fin) : List UInt8 := [32, 32] ++ join [finGo (fin0 x) x.edges, number [116, 114, 97, 112] x.trap]
theorem finGo_snoc (l : List Edge) (s : List UInt8) (e : Edge) : finGo s (l ++ [e]) = join [finGo s l, [116, 111], Lib.itoa e.tgt, row e.args] := by
  induction l generalizing s with
  | nil => rfl
  | cons a l ih => rw [List.cons_append, finGo, finGo, ih]
theorem joinS_len : ∀ l : List (List UInt8), (Lib.join l [32]).length ≤ (l.map (·.length + 1)).sum
  | [] => by simp [Lib.join, List.intercalate]
  | s :: l => by
    rw [Lib.join_cons]
    have : ∀ l : List (List UInt8), (Lib.joinTail [32] l).length = (l.map (·.length + 1)).sum := by
      intro l
      induction l with
      | nil => rfl
      | cons a l ih =>
        simp only [Lib.joinTail, List.map_cons, List.flatten_cons, List.length_append, List.length_cons, List.length_nil, List.sum_cons] at ih ⊢
        omega
    rw [List.length_append, this, List.map_cons, List.sum_cons]; omega
theorem joinF_len (l : List (List UInt8)) : (join l).length ≤ (l.map (·.length + 1)).sum := by
  refine Nat.le_trans (joinS_len _) ?_
  induction l with
  | nil => simp
  | cons a l ih =>
    rw [List.filter_cons]
    split
    · simp only [List.map_cons, List.sum_cons]; omega
    · simp only [List.map_cons, List.sum_cons]; omega
theorem number_len {l : List UInt8} {z : Int} (h : InR z) : (number l z).length ≤ l.length + 21 := by
  have := itoa_len h
  unfold number
  split <;> simp <;> omega
theorem list_len {s : List UInt8} {l : List Int} (h : ∀ z ∈ l, InR z) : (list s l).length ≤ s.length + 21 * l.length + 2 := by
  unfold list
  split
  · simp
  · have h1 := joinF_len [s, row l]
    have h2 := row_len h
    simp at h1; omega
set_option maxRecDepth 100000 in
theorem all_names : ∀ x ∈ Opc.all, x.2.length ≤ 30 ∧ x.2 ≠ [] := by decide +kernel
theorem look_mem {op : Int} {l : List (Int × List UInt8)} {s : List UInt8} (h : Opc.look op l = some s) : (op, s) ∈ l := by
  induction l with
  | nil => cases h
  | cons r l ih =>
    rw [Opc.look] at h
    split at h
    · rename_i hr
      cases h; subst hr; simp
    · exact List.mem_cons_of_mem _ (ih h)
theorem name_len (op : Int) : (Opc.name op).length ≤ 30 := by
  unfold Opc.name
  rcases h : Opc.look op Opc.all with _ | s
  · simp
  · exact (all_names _ (look_mem h)).1
theorem known_name (op : Int) : (!(Opc.name op == [])) = Opc.known op := by
  unfold Opc.known Opc.name
  rcases h : Opc.look op Opc.all with _ | s
  · rfl
  · have := (all_names _ (look_mem h)).2
    simpa using this
set_option maxRecDepth 100000 in
theorem kindW_len : ∀ s ∈ kindW, s.length ≤ 10 := by decide +kernel
set_option maxRecDepth 100000 in
theorem endW_len : ∀ s ∈ endW, s.length ≤ 10 := by decide +kernel
theorem word_len {l : List (List UInt8)} (h : ∀ s ∈ l, s.length ≤ 10) (i : Int) : (word l i).1.length ≤ 10 := by
  unfold word
  split
  · rename_i h1
    have : i.toNat < l.length := by omega
    simp [this]
    exact h _ (List.getElem_mem _)
  · simp
theorem opT_len (op : Int) : (opT op).length ≤ 33 := by
  have := name_len op
  unfold opT
  split <;> simp <;> omega
theorem nT_len {n : Nat} (h : n < 18446744073709551616) : (nT n).length ≤ 22 := by
  have := dec20 h
  unfold nT
  split <;> simp <;> omega
theorem fin0_len {x : Fin} (h : x.Ok) : (fin0 x).length ≤ 300000 := by
  have h1 := joinF_len [[101, 110, 100], (word endW x.kind).1, number [111, 110] x.cond, list [111, 102] x.args]
  have h2 := word_len endW_len x.kind
  have h3 := number_len (l := [111, 110]) h.cond
  have h4 := list_len (s := [111, 102]) h.args.2
  have h5 := h.args.1
  unfold fin0
  simp at h1 h3 h4; omega
theorem finGo_len (l : List Edge) (s : List UInt8) (h : ∀ e ∈ l, e.Ok) : (finGo s l).length ≤ s.length + 30 * ecount l := by
  induction l generalizing s with
  | nil => simp [finGo]
  | cons e l ih =>
    have he := h e (by simp)
    have h1 := ih (join [s, [116, 111], Lib.itoa e.tgt, row e.args]) fun e he => h e (by simp [he])
    have h2 := joinF_len [s, [116, 111], Lib.itoa e.tgt, row e.args]
    have h3 := itoa_len he.1
    have h4 := row_len he.2.2
    rw [finGo]
    simp [ecount] at h1 h2 ⊢
    omega
theorem ecount_take (l : List Edge) (k : Nat) : ecount (l.take k) ≤ ecount l := by
  have : ecount l = ecount (l.take k) + ecount (l.drop k) := by
    unfold ecount
    rw [← List.sum_append_nat, ← List.map_append, List.take_append_drop]
  omega
theorem ecount_len (l : List Edge) : l.length ≤ ecount l := by
  induction l with
  | nil => simp [ecount]
  | cons a l ih => simp [ecount] at ih ⊢; omega
end St
open Go.RowKit
open St (InR)

/-- Every cell stays. -/
def Keep (S : Nat → Prop) (w w' : World) : Prop := ∀ (p : Addr) (v : Value), S p.block → w.cell? p = some v → w'.cell? p = some v
theorem Below.keep {w w' : World} (h : Below w.heap.size w w') (S : Nat → Prop) : Keep S w w' := fun p v _ hc => (h.cell (World.block_lt_of_cell? w p hc)).trans hc
theorem Keep.trans {S : Nat → Prop} {a b c : World} (h : Keep S a b) (k : Keep S b c) : Keep S a c := fun p v hs hc => k p v hs (h p v hs hc)

/-- A slice of elements of k cells, each read by R, in blocks of S. -/
def RdT {α : Type} (w : World) (S : Nat → Prop) (A : Option Addr) (k : Nat) (R : World → Nat → Nat → α → Prop) (l : List α) : Prop :=
  l ≠ [] → ∃ g o, A = some ⟨g, o, none⟩ ∧ S g ∧ g < w.heap.size ∧ ∀ i (h : i < l.length), R w g (o + i * k) l[i]
section
variable {α : Type} {w w' : World} {S : Nat → Prop} {A : Option Addr} {k : Nat} {R : World → Nat → Nat → α → Prop} {l : List α}
theorem RdT.get (h : RdT w S A k R l) {i : Nat} (hi : i < l.length) : ∃ g o, A = some ⟨g, o, none⟩ ∧ S g ∧ g < w.heap.size ∧ R w g (o + i * k) l[i] := by
  obtain ⟨g, o, e, hb, hg, hc⟩ := h (by intro e; rw [e] at hi; simp at hi)
  exact ⟨g, o, e, hb, hg, hc i hi⟩
theorem RdT.nil_ : RdT w S A k R ([] : List α) := fun h => absurd rfl h
theorem RdT.keep (hR : ∀ g o x, S g → R w g o x → R w' g o x) (hsz : w.heap.size ≤ w'.heap.size) (h : RdT w S A k R l) : RdT w' S A k R l := fun hl => by
  obtain ⟨g, o, e, hb, hg, hc⟩ := h hl
  exact ⟨g, o, e, hb, by omega, fun i hi => hR _ _ _ hb (hc i hi)⟩
end
def ZAt (w : World) (g o : Nat) (z : Int) : Prop := w.cell? ⟨g, o, none⟩ = some (.int .i64 z)
abbrev RdZ (w : World) (S : Nat → Prop) (A : Option Addr) (l : List Int) : Prop := RdT w S A 1 ZAt l
theorem RdZ.keep {w w' : World} {S : Nat → Prop} {A : Option Addr} {l : List Int} (hk : Keep S w w') (hsz : w.heap.size ≤ w'.heap.size) (h : RdZ w S A l) : RdZ w' S A l := RdT.keep (fun g o x hs hx => hk _ _ hs hx) hsz h
theorem RdZ.rds {w : World} {S : Nat → Prop} {A : Option Addr} {l : List Int} (h : RdZ w S A l) : RdS w w.heap.size A 1 encZ l := fun hl => by
  obtain ⟨g, o, e, hb, hg, hc⟩ := h hl
  refine ⟨g, o, e, hg, fun i hi j v hv => ?_⟩
  have hj : j = 0 := by
    have := (List.getElem?_eq_some_iff.1 hv).1
    simp [encZ] at this; exact this
  subst hj
  simp [encZ] at hv
  subst hv
  exact hc i hi
theorem RdZ.of_rds {w : World} {S : Nat → Prop} {B : Nat} {A : Option Addr} {l : List Int} (h : RdS w B A 1 encZ l) (hS : ∀ g o, A = some ⟨g, o, none⟩ → S g) : RdZ w S A l := fun hl => by
  obtain ⟨g, o, e, hb, hc⟩ := h hl
  have h0 : 0 < l.length := List.length_pos_iff.2 hl
  refine ⟨g, o, e, hS g o e, World.block_lt_of_cell? w _ (hc 0 h0 0 _ rfl), fun i hi => hc i hi 0 _ rfl⟩
def EdgeAt (S : Nat → Prop) (w : World) (g o : Nat) (e : St.Edge) : Prop :=
  w.cell? ⟨g, o, none⟩ = some (.int .i64 e.tgt) ∧ ∃ A c, w.cell? ⟨g, o + 1, none⟩ = some (.slice A e.args.length c) ∧ RdZ w S A e.args
def InsAt (S : Nat → Prop) (w : World) (g o : Nat) (x : St.Ins) : Prop :=
  w.cell? ⟨g, o, none⟩ = some (.int .i64 x.kind) ∧ w.cell? ⟨g, o + 1, none⟩ = some (.int .i64 x.op) ∧ w.cell? ⟨g, o + 2, none⟩ = some (.int .i64 x.a) ∧ w.cell? ⟨g, o + 3, none⟩ = some (.int .i64 x.b) ∧ w.cell? ⟨g, o + 4, none⟩ = some (.int .u64 (x.n : Int)) ∧
  (∃ A c, w.cell? ⟨g, o + 5, none⟩ = some (.slice A x.args.length c) ∧ RdZ w S A x.args) ∧ ∃ A c, w.cell? ⟨g, o + 6, none⟩ = some (.slice A x.outs.length c) ∧ RdZ w S A x.outs
def FinAt (S : Nat → Prop) (w : World) (g o : Nat) (x : St.Fin) : Prop :=
  w.cell? ⟨g, o, none⟩ = some (.int .i64 x.kind) ∧ w.cell? ⟨g, o + 1, none⟩ = some (.int .i64 x.cond) ∧ (∃ A c, w.cell? ⟨g, o + 2, none⟩ = some (.slice A x.args.length c) ∧ RdZ w S A x.args) ∧
  (∃ A c, w.cell? ⟨g, o + 3, none⟩ = some (.slice A x.edges.length c) ∧ RdT w S A 2 (EdgeAt S) x.edges) ∧ w.cell? ⟨g, o + 4, none⟩ = some (.int .i64 x.trap)
def BlkAt (S : Nat → Prop) (w : World) (g o : Nat) (x : St.Blk) : Prop :=
  (∃ A c, w.cell? ⟨g, o, none⟩ = some (.slice A x.params.length c) ∧ RdZ w S A x.params) ∧ (∃ A c, w.cell? ⟨g, o + 1, none⟩ = some (.slice A x.ins.length c) ∧ RdT w S A 7 (InsAt S) x.ins) ∧ FinAt S w g (o + 2) x.fin
section
variable {w w' : World} {S : Nat → Prop} (hk : Keep S w w') (hsz : w.heap.size ≤ w'.heap.size)
include hk hsz
theorem EdgeAt.keep (g o : Nat) (e : St.Edge) (hs : S g) (h : EdgeAt S w g o e) : EdgeAt S w' g o e := by
  obtain ⟨h1, A, c, h2, h3⟩ := h
  exact ⟨hk _ _ hs h1, A, c, hk _ _ hs h2, h3.keep hk hsz⟩
theorem InsAt.keep (g o : Nat) (e : St.Ins) (hs : S g) (h : InsAt S w g o e) : InsAt S w' g o e := by
  obtain ⟨h1, h2, h3, h4, h5, ⟨A, c, h6, h7⟩, B, d, h8, h9⟩ := h
  exact ⟨hk _ _ hs h1, hk _ _ hs h2, hk _ _ hs h3, hk _ _ hs h4, hk _ _ hs h5, ⟨A, c, hk _ _ hs h6, h7.keep hk hsz⟩, B, d, hk _ _ hs h8, h9.keep hk hsz⟩
theorem FinAt.keep (g o : Nat) (e : St.Fin) (hs : S g) (h : FinAt S w g o e) : FinAt S w' g o e := by
  obtain ⟨h1, h2, ⟨A, c, h3, h4⟩, ⟨B, d, h5, h6⟩, h7⟩ := h
  exact ⟨hk _ _ hs h1, hk _ _ hs h2, ⟨A, c, hk _ _ hs h3, h4.keep hk hsz⟩, ⟨B, d, hk _ _ hs h5, h6.keep (fun g o x hs hx => EdgeAt.keep hk hsz g o x hs hx) hsz⟩, hk _ _ hs h7⟩
theorem BlkAt.keep (g o : Nat) (e : St.Blk) (hs : S g) (h : BlkAt S w g o e) : BlkAt S w' g o e := by
  obtain ⟨⟨A, c, h1, h2⟩, ⟨B, d, h3, h4⟩, h5⟩ := h
  exact ⟨⟨A, c, hk _ _ hs h1, h2.keep hk hsz⟩, ⟨B, d, hk _ _ hs h3, h4.keep (fun g o x hs hx => InsAt.keep hk hsz g o x hs hx) hsz⟩, FinAt.keep hk hsz g _ _ hs h5⟩
end
end Go.Proofs.YtmhmpobjjhbklaaGreatDoor
