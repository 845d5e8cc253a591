/-
  Layer 51, the laws: a module as a law holds it; the parameter that is a module. (Printed by gen_lm1.py.)
-/
import Derived.Test.YtadnfekogmjieaaGreatDoorGGG
import Derived.Test.YtadnfekogmjieaaGreatDoorGGW
set_option linter.unusedVariables false
set_option linter.unusedSimpArgs false
namespace Go.Proofs.YtadnfekogmjieaaGreatDoor
open Go.ChangeShapes Go.WideShapes Go.Deep Go.RowKit
open Mc (Pl Mi Mf Th Wt Im Md)
/-! What lies in memory. -/
def InAt (w : World) (g o : Nat) (_ : Unit) : Prop := ∃ A n c B k d, w.cell? ⟨g, o + 7, none⟩ = some (.slice A n c) ∧ w.cell? ⟨g, o + 8, none⟩ = some (.slice B k d)
def BdRd (S : Nat → Prop) (w : World) (A : Option Addr) (n : Nat) : Prop := n ≤ 9223372036854775807 ∧ ∃ l : List Unit, l.length = n ∧ RdT w S A 9 InAt l
abbrev BV := Option Addr × Nat × Nat
def ItAt (S : Nat → Prop) (w : World) (g o : Nat) (v : BV) : Prop := w.cell? ⟨g, o, none⟩ = some (.slice v.1 v.2.1 v.2.2) ∧ BdRd S w v.1 v.2.1
def CdL (S : Nat → Prop) (w : World) (g o : Nat) (z : Int) : Prop := ∃ (A : Option Addr) (n c : Nat) (B : Option Addr) (k d : Nat), (w.cell? ⟨g, o, none⟩ = some (.int .i64 z) ∧ w.cell? ⟨g, o + 1, none⟩ = some (.slice A n c) ∧ w.cell? ⟨g, o + 2, none⟩ = some (.slice B k d)) ∧ BdRd S w B k
def GdL (S : Nat → Prop) (w : World) (g o : Nat) (x : Int × Bool) : Prop := ∃ (A : Option Addr) (n c : Nat), (w.cell? ⟨g, o, none⟩ = some (.int .i64 x.1) ∧ w.cell? ⟨g, o + 1, none⟩ = some (.bool x.2) ∧ w.cell? ⟨g, o + 2, none⟩ = some (.slice A n c)) ∧ BdRd S w A n
def ExAt (w : World) (g o : Nat) (_ : Unit) : Prop := ∃ s, w.cell? ⟨g, o, none⟩ = some (.string s)
def ElAt (S : Nat → Prop) (w : World) (g o : Nat) (_ : Unit) : Prop := ∃ (A : Option Addr) (n c : Nat) (B : Option Addr) (d : Nat) (l : List BV), (w.cell? ⟨g, o + 2, none⟩ = some (.slice A n c) ∧ w.cell? ⟨g, o + 4, none⟩ = some (.slice B l.length d)) ∧ BdRd S w A n ∧ RdT w S B 1 (ItAt S) l ∧ ∃ z : Int, w.cell? ⟨g, o + 3, none⟩ = some (.int .i64 z)
def DaAt (S : Nat → Prop) (w : World) (g o : Nat) (_ : Unit) : Prop := ∃ (A : Option Addr) (n c : Nat) (B : Option Addr) (k d : Nat), (w.cell? ⟨g, o + 2, none⟩ = some (.slice A n c) ∧ w.cell? ⟨g, o + 3, none⟩ = some (.slice B k d)) ∧ BdRd S w A n
def CuAt (w : World) (g o : Nat) (_ : Unit) : Prop := ∃ (s : ByteArray) (B : Option Addr) (k d : Nat), w.cell? ⟨g, o + 1, none⟩ = some (.string s) ∧ w.cell? ⟨g, o + 2, none⟩ = some (.slice B k d)
section
variable {S S' : Nat → Prop} {w w' : World}
theorem BdRd.keep {A : Option Addr} {n : Nat} (h : BdRd S w A n) (hk : Keep S w w') (hs : w.heap.size ≤ w'.heap.size) : BdRd S w' A n := by
  obtain ⟨h0, l, h1, h2⟩ := h
  refine ⟨h0, l, h1, RdT.keep (fun g o x hg hx => ?_) hs h2⟩
  obtain ⟨A, n, c, B, k, d, h3, h4⟩ := hx
  exact ⟨A, n, c, B, k, d, hk _ _ hg h3, hk _ _ hg h4⟩
theorem BdRd.mono {A : Option Addr} {n : Nat} (h : BdRd S w A n) (hS : ∀ g, g < w.heap.size → S g → S' g) : BdRd S' w A n := by
  obtain ⟨h0, l, h1, h2⟩ := h
  exact ⟨h0, l, h1, RdT.mono h2 hS (fun _ _ _ h => h)⟩
theorem ItAt.keep (hk : Keep S w w') (hs : w.heap.size ≤ w'.heap.size) (g o : Nat) (v : BV) (hg : S g) (h : ItAt S w g o v) : ItAt S w' g o v := ⟨hk _ _ hg h.1, h.2.keep hk hs⟩
end
structure MdL (S : Nat → Prop) (w : World) (m : Md) (x : MX) : Prop where
  ty : RdT w S x.TA 2 TyAt m.types
  im : RdT w S x.IA 13 ImAt m.imps
  fn : RdT w S x.FA 3 (CdL S) m.funcs
  tb : RdT w S x.BA 4 TbAt m.tables
  gl : RdT w S x.GA 3 (GdL S) m.globals
  ex : ∃ A c, ∃ l : List Unit, x.v6 = .slice A l.length c ∧ RdT w S A 3 ExAt l
  el : ∃ l : List Unit, l.length = m.elems ∧ RdT w S x.EA 5 (ElAt S) l
  da : ∃ l : List Unit, l.length = m.datas ∧ RdT w S x.DA 4 (DaAt S) l
  cu : ∃ A c, ∃ l : List Unit, x.v11 = .slice A l.length c ∧ RdT w S A 3 CuAt l
section
variable {S : Nat → Prop} {w w' : World} {m : Md} {x : MX}
theorem MdL.rd (h : MdL S w m x) : MdRd S w m x :=
  ⟨h.ty, h.im, RdT.mono h.fn (fun _ _ h => h) (fun g o z h => by obtain ⟨A, n, c, B, k, d, h1, -⟩ := h; exact ⟨A, n, c, B, k, d, h1⟩), h.tb, RdT.mono h.gl (fun _ _ h => h) (fun g o z h => by obtain ⟨A, n, c, h1, -⟩ := h; exact ⟨A, n, c, h1⟩)⟩
theorem MdL.keep (h : MdL S w m x) (hk : Keep S w w') (hs : w.heap.size ≤ w'.heap.size) : MdL S w' m x := by
  obtain ⟨h1, h2, h3, h4, h5, ⟨A6, c6, l6, e6, h6⟩, ⟨l7, e7, h7⟩, ⟨l8, e8, h8⟩, A9, c9, l9, e9, h9⟩ := h
  refine ⟨RdT.keep (fun g o f hg hf => TyAt.keep hk g o f hg hf) hs h1, RdT.keep (fun g o f hg hf => ImAt.keep hk g o f hg hf) hs h2, RdT.keep (fun g o f hg hf => ?_) hs h3, RdT.keep (fun g o f hg hf => TbAt.keep hk g o f hg hf) hs h4, RdT.keep (fun g o f hg hf => ?_) hs h5, ⟨A6, c6, l6, e6, RdT.keep (fun g o f hg hf => ?_) hs h6⟩, ⟨l7, e7, RdT.keep (fun g o f hg hf => ?_) hs h7⟩, ⟨l8, e8, RdT.keep (fun g o f hg hf => ?_) hs h8⟩, A9, c9, l9, e9, RdT.keep (fun g o f hg hf => ?_) hs h9⟩
  · obtain ⟨A, n, c, B, k, d, ⟨a1, a2, a3⟩, a4⟩ := hf
    exact ⟨A, n, c, B, k, d, ⟨hk _ _ hg a1, hk _ _ hg a2, hk _ _ hg a3⟩, a4.keep hk hs⟩
  · obtain ⟨A, n, c, ⟨a1, a2, a3⟩, a4⟩ := hf
    exact ⟨A, n, c, ⟨hk _ _ hg a1, hk _ _ hg a2, hk _ _ hg a3⟩, a4.keep hk hs⟩
  · obtain ⟨s, a1⟩ := hf
    exact ⟨s, hk _ _ hg a1⟩
  · obtain ⟨A, n, c, B, d, l, ⟨a1, a2⟩, a3, a4, z, a5⟩ := hf
    exact ⟨A, n, c, B, d, l, ⟨hk _ _ hg a1, hk _ _ hg a2⟩, a3.keep hk hs, RdT.keep (ItAt.keep hk hs) hs a4, z, hk _ _ hg a5⟩
  · obtain ⟨A, n, c, B, k, d, ⟨a1, a2⟩, a3⟩ := hf
    exact ⟨A, n, c, B, k, d, ⟨hk _ _ hg a1, hk _ _ hg a2⟩, a3.keep hk hs⟩
  · obtain ⟨s, B, k, d, a1, a2⟩ := hf
    exact ⟨s, B, k, d, hk _ _ hg a1, hk _ _ hg a2⟩
theorem MdL.on (h : MdL S w m x) (hb : Below w.heap.size w w') : MdL S w' m x := h.keep (Below.keep hb S) hb.size
end
/-! The parameter. -/
section
variable {H : Type} {enc : TypeId × Value → H} {w : World} {base : Nat} {held : Bool} {spare : Nat → Bool}
set_option maxRecDepth 100000 in
theorem cells_in : Tryz.prog.cellsOf 126 = 9 := by kernel_rfl
set_option maxRecDepth 100000 in
theorem cells_cd : Tryz.prog.cellsOf 79 = 3 := by kernel_rfl
set_option maxRecDepth 100000 in
theorem cells_gd : Tryz.prog.cellsOf 81 = 3 := by kernel_rfl
set_option maxRecDepth 100000 in
theorem cells_ex : Tryz.prog.cellsOf 83 = 3 := by kernel_rfl
set_option maxRecDepth 100000 in
theorem cells_el : Tryz.prog.cellsOf 85 = 5 := by kernel_rfl
set_option maxRecDepth 100000 in
theorem cells_da : Tryz.prog.cellsOf 88 = 4 := by kernel_rfl
set_option maxRecDepth 100000 in
theorem cells_cu : Tryz.prog.cellsOf 90 = 3 := by kernel_rfl
set_option maxRecDepth 100000 in
theorem cells_im : Tryz.prog.cellsOf 76 = 13 := by kernel_rfl
set_option maxRecDepth 100000 in
theorem cells_tb : Tryz.prog.cellsOf 72 = 4 := by kernel_rfl
set_option maxRecDepth 100000 in
theorem cells_fu : Tryz.prog.cellsOf 36 = 2 := by kernel_rfl
set_option maxRecDepth 100000 in
theorem cells_li : Tryz.prog.cellsOf 70 = 3 := by kernel_rfl
set_option maxRecDepth 100000 in
theorem cells_gl : Tryz.prog.cellsOf 74 = 2 := by kernel_rfl
set_option maxRecDepth 100000 in
theorem cells_md : Tryz.prog.cellsOf 33 = 12 := by kernel_rfl
set_option maxRecDepth 100000 in
theorem open_lim {m : Nat} {cs : List Value} {y : DataW H × List MemPlace} (h : DataW.trod enc Tryz.prog w base spare held m 70 cs = some y) : ∃ a b d, cs = [.int .i64 a, .int .i64 b, .bool d] := by
  obtain ⟨xs, n, rfl, rfl, hlen, hxl, hf⟩ := DataW.trod_struct Tryz.underlying70 h
  rw [cells_li] at hlen
  match cs, hlen with
  | [v0, v1, v2], _ =>
    have hxl2 : xs.length = 3 := hxl
    match xs, hxl2 with
    | [x0, x1, x2], _ =>
      have t0 := hf 0 _ rfl
      replace t0 : DataW.trod enc Tryz.prog w base spare held n 3 [v0] = some x0 := t0
      have t1 := hf 1 _ rfl
      replace t1 : DataW.trod enc Tryz.prog w base spare held n 3 [v1] = some x1 := t1
      have t2 := hf 2 _ rfl
      replace t2 : DataW.trod enc Tryz.prog w base spare held n 4 [v2] = some x2 := t2
      obtain ⟨z0, e0, _, _⟩ := DataW.trod_int Tryz.underlying3 t0
      obtain rfl : v0 = .int .i64 z0 := by simpa using e0
      obtain ⟨z1, e1, _, _⟩ := DataW.trod_int Tryz.underlying3 t1
      obtain rfl : v1 = .int .i64 z1 := by simpa using e1
      obtain ⟨z2, e2, _⟩ := DataW.trod_bool Tryz.underlying4 t2
      obtain rfl : v2 = .bool z2 := by simpa using e2
      exact ⟨z0, z1, z2, rfl⟩
set_option maxRecDepth 100000 in
theorem open_tab {m : Nat} {cs : List Value} {y : DataW H × List MemPlace} (h : DataW.trod enc Tryz.prog w base spare held m 72 cs = some y) : ∃ z a b d, cs = [.int .i64 z, .int .i64 a, .int .i64 b, .bool d] := by
  obtain ⟨xs, n, rfl, rfl, hlen, hxl, hf⟩ := DataW.trod_struct Tryz.underlying72 h
  rw [cells_tb] at hlen
  match cs, hlen with
  | [v0, v1, v2, v3], _ =>
    have hxl2 : xs.length = 2 := hxl
    match xs, hxl2 with
    | [x0, x1], _ =>
      have t0 := hf 0 _ rfl
      replace t0 : DataW.trod enc Tryz.prog w base spare held n 68 [v0] = some x0 := t0
      have t1 := hf 1 _ rfl
      replace t1 : DataW.trod enc Tryz.prog w base spare held n 70 [v1, v2, v3] = some x1 := t1
      obtain ⟨z0, e0, _, _⟩ := DataW.trod_int Tryz.underlying68 t0
      obtain rfl : v0 = .int .i64 z0 := by simpa using e0
      obtain ⟨a1, b1, d1, e1⟩ := open_lim t1
      obtain ⟨rfl, rfl, rfl⟩ : v1 = .int .i64 a1 ∧ v2 = .int .i64 b1 ∧ v3 = .bool d1 := by simpa using e1
      exact ⟨z0, a1, b1, d1, rfl⟩
set_option maxRecDepth 100000 in
theorem open_glo {m : Nat} {cs : List Value} {y : DataW H × List MemPlace} (h : DataW.trod enc Tryz.prog w base spare held m 74 cs = some y) : ∃ z b, cs = [.int .i64 z, .bool b] := by
  obtain ⟨xs, n, rfl, rfl, hlen, hxl, hf⟩ := DataW.trod_struct Tryz.underlying74 h
  rw [cells_gl] at hlen
  match cs, hlen with
  | [v0, v1], _ =>
    have hxl2 : xs.length = 2 := hxl
    match xs, hxl2 with
    | [x0, x1], _ =>
      have t0 := hf 0 _ rfl
      replace t0 : DataW.trod enc Tryz.prog w base spare held n 68 [v0] = some x0 := t0
      have t1 := hf 1 _ rfl
      replace t1 : DataW.trod enc Tryz.prog w base spare held n 4 [v1] = some x1 := t1
      obtain ⟨z0, e0, _, _⟩ := DataW.trod_int Tryz.underlying68 t0
      obtain rfl : v0 = .int .i64 z0 := by simpa using e0
      obtain ⟨z1, e1, _⟩ := DataW.trod_bool Tryz.underlying4 t1
      obtain rfl : v1 = .bool z1 := by simpa using e1
      exact ⟨z0, z1, rfl⟩
theorem open_any {T e : TypeId} {k : Nat} (hT : Tryz.prog.underlying T = some (.slice e)) (hk : Tryz.prog.cellsOf e = k) (hk0 : 0 < k) {n : Nat} {v : Value} {y : DataW H × List MemPlace} (h : DataW.trod enc Tryz.prog w base spare held n T [v] = some y) : ∃ A n c, v = .slice A n c := by
  obtain ⟨A, c, l, hcs, -⟩ := open_slice_gen (α := Unit) hT hk hk0 (fun _ _ _ _ => True) (fun _ => True) (fun _ _ _ _ _ _ _ _ _ => ⟨(), trivial, trivial⟩) h
  exact ⟨A, l.length, c, by simpa using hcs⟩
theorem open_bytes {n : Nat} {v : Value} {y : DataW H × List MemPlace} (h : DataW.trod enc Tryz.prog w base spare held n 86 [v] = some y) : ∃ A n c, v = .slice A n c := open_any Tryz.underlying86 (k := 1) (by kernel_rfl) (by omega) h
set_option maxRecDepth 100000 in
theorem open_in {m : Nat} {cs : List Value} {y : DataW H × List MemPlace} (h : DataW.trod enc Tryz.prog w base spare held m 126 cs = some y) (g o : Nat) (hc : ∀ j, j < 9 → w.cell? ⟨g, o + j, none⟩ = cs[j]?) :
    ∃ u : Unit, InAt w g o u ∧ True := by
  obtain ⟨xs, n, rfl, rfl, hlen, hxl, hf⟩ := DataW.trod_struct Tryz.underlying126 h
  rw [cells_in] at hlen
  match cs, hlen with
  | [v0, v1, v2, v3, v4, v5, v6, v7, v8], _ =>
    have hxl2 : xs.length = 7 := hxl
    match xs, hxl2 with
    | [x0, x1, x2, x3, x4, x5, x6], _ =>
      have t5 := hf 5 _ rfl
      replace t5 : DataW.trod enc Tryz.prog w base spare held n 34 [v7] = some x5 := t5
      have t6 := hf 6 _ rfl
      replace t6 : DataW.trod enc Tryz.prog w base spare held n 58 [v8] = some x6 := t6
      obtain ⟨A5, c5, l5, rfl, _⟩ := open_vals_ t5
      obtain ⟨A6, c6, l6, rfl, _⟩ := open_ints_ t6
      exact ⟨(), ⟨A5, l5.length, c5, A6, l6.length, c6, hc 7 (by omega), hc 8 (by omega)⟩, trivial⟩
theorem open_body {n : Nat} {v : Value} {y : DataW H × List MemPlace} (h : DataW.trod enc Tryz.prog w base spare held n 77 [v] = some y) : ∃ A n c, v = .slice A n c ∧ BdRd (fun g => g < w.heap.size) w A n := by
  obtain ⟨A, c, l, hcs, hr, -, h1, h2⟩ := open_slice_gen Tryz.underlying77 cells_in (by omega) InAt (fun _ => True) (fun m cs y hm ht hl g o hc => open_in ht g o hc) h
  exact ⟨A, l.length, c, by simpa using hcs, by have : maxLen = 9223372036854775807 := rfl; omega, l, rfl, hr⟩
theorem open_items {n : Nat} {v : Value} {y : DataW H × List MemPlace} (h : DataW.trod enc Tryz.prog w base spare held n 66 [v] = some y) : ∃ A c, ∃ l : List BV, v = .slice A l.length c ∧ RdT w (fun g => g < w.heap.size) A 1 (ItAt (fun g => g < w.heap.size)) l := by
  obtain ⟨A, c, l, hcs, hr, -⟩ := open_slice_gen Tryz.underlying66 (k := 1) (by kernel_rfl) (by omega) (ItAt (fun g => g < w.heap.size)) (fun _ => True) (fun m cs y hm ht hl g o hc => by
    match cs, hl with
    | [v], _ =>
      obtain ⟨A, n, c, rfl, hb⟩ := open_body ht
      exact ⟨(A, n, c), ⟨hc 0 (by omega), hb⟩, trivial⟩) h
  exact ⟨A, c, l, by simpa using hcs, hr⟩
set_option maxRecDepth 100000 in
theorem open_cd {m : Nat} {cs : List Value} {y : DataW H × List MemPlace} (h : DataW.trod enc Tryz.prog w base spare held m 79 cs = some y) (g o : Nat) (hc : ∀ j, j < 3 → w.cell? ⟨g, o + j, none⟩ = cs[j]?) :
    ∃ z : Int, CdL (fun g => g < w.heap.size) w g o z ∧ True := by
  obtain ⟨xs, n, rfl, rfl, hlen, hxl, hf⟩ := DataW.trod_struct Tryz.underlying79 h
  rw [cells_cd] at hlen
  match cs, hlen with
  | [v0, v1, v2], _ =>
    have hxl2 : xs.length = 3 := hxl
    match xs, hxl2 with
    | [x0, x1, x2], _ =>
      have t0 := hf 0 _ rfl
      replace t0 : DataW.trod enc Tryz.prog w base spare held n 3 [v0] = some x0 := t0
      have t1 := hf 1 _ rfl
      replace t1 : DataW.trod enc Tryz.prog w base spare held n 34 [v1] = some x1 := t1
      have t2 := hf 2 _ rfl
      replace t2 : DataW.trod enc Tryz.prog w base spare held n 77 [v2] = some x2 := t2
      obtain ⟨z0, e0, _, _⟩ := DataW.trod_int Tryz.underlying3 t0
      obtain rfl : v0 = .int .i64 z0 := by simpa using e0
      obtain ⟨A1, c1, l1, rfl, _⟩ := open_vals_ t1
      obtain ⟨A2, n2, c2, rfl, b2⟩ := open_body t2
      exact ⟨z0, ⟨A1, l1.length, c1, A2, n2, c2, ⟨hc 0 (by omega), hc 1 (by omega), hc 2 (by omega)⟩, b2⟩, trivial⟩
set_option maxRecDepth 100000 in
theorem open_gd {m : Nat} {cs : List Value} {y : DataW H × List MemPlace} (h : DataW.trod enc Tryz.prog w base spare held m 81 cs = some y) (g o : Nat) (hc : ∀ j, j < 3 → w.cell? ⟨g, o + j, none⟩ = cs[j]?) :
    ∃ z : Int × Bool, GdL (fun g => g < w.heap.size) w g o z ∧ True := by
  obtain ⟨xs, n, rfl, rfl, hlen, hxl, hf⟩ := DataW.trod_struct Tryz.underlying81 h
  rw [cells_gd] at hlen
  match cs, hlen with
  | [v0, v1, v2], _ =>
    have hxl2 : xs.length = 2 := hxl
    match xs, hxl2 with
    | [x0, x1], _ =>
      have t0 := hf 0 _ rfl
      replace t0 : DataW.trod enc Tryz.prog w base spare held n 74 [v0, v1] = some x0 := t0
      have t1 := hf 1 _ rfl
      replace t1 : DataW.trod enc Tryz.prog w base spare held n 77 [v2] = some x1 := t1
      obtain ⟨z0, b0, e0⟩ := open_glo t0
      obtain ⟨rfl, rfl⟩ : v0 = .int .i64 z0 ∧ v1 = .bool b0 := by simpa using e0
      obtain ⟨A1, n1, c1, rfl, b1⟩ := open_body t1
      exact ⟨(z0, b0), ⟨A1, n1, c1, ⟨hc 0 (by omega), hc 1 (by omega), hc 2 (by omega)⟩, b1⟩, trivial⟩
set_option maxRecDepth 100000 in
theorem open_ex {m : Nat} {cs : List Value} {y : DataW H × List MemPlace} (h : DataW.trod enc Tryz.prog w base spare held m 83 cs = some y) (g o : Nat) (hc : ∀ j, j < 3 → w.cell? ⟨g, o + j, none⟩ = cs[j]?) :
    ∃ u : Unit, ExAt w g o u ∧ True := by
  obtain ⟨xs, n, rfl, rfl, hlen, hxl, hf⟩ := DataW.trod_struct Tryz.underlying83 h
  rw [cells_ex] at hlen
  match cs, hlen with
  | [v0, v1, v2], _ =>
    have hxl2 : xs.length = 3 := hxl
    match xs, hxl2 with
    | [x0, x1, x2], _ =>
      have t0 := hf 0 _ rfl
      replace t0 : DataW.trod enc Tryz.prog w base spare held n 9 [v0] = some x0 := t0
      obtain ⟨z0, e0, _⟩ := DataW.trod_string Tryz.underlying9 t0
      obtain rfl : v0 = .string z0 := by simpa using e0
      exact ⟨(), ⟨z0, hc 0 (by omega)⟩, trivial⟩
set_option maxRecDepth 100000 in
theorem open_el {m : Nat} {cs : List Value} {y : DataW H × List MemPlace} (h : DataW.trod enc Tryz.prog w base spare held m 85 cs = some y) (g o : Nat) (hc : ∀ j, j < 5 → w.cell? ⟨g, o + j, none⟩ = cs[j]?) :
    ∃ u : Unit, ElAt (fun g => g < w.heap.size) w g o u ∧ True := by
  obtain ⟨xs, n, rfl, rfl, hlen, hxl, hf⟩ := DataW.trod_struct Tryz.underlying85 h
  rw [cells_el] at hlen
  match cs, hlen with
  | [v0, v1, v2, v3, v4], _ =>
    have hxl2 : xs.length = 5 := hxl
    match xs, hxl2 with
    | [x0, x1, x2, x3, x4], _ =>
      have t2 := hf 2 _ rfl
      replace t2 : DataW.trod enc Tryz.prog w base spare held n 77 [v2] = some x2 := t2
      have t3 := hf 3 _ rfl
      replace t3 : DataW.trod enc Tryz.prog w base spare held n 68 [v3] = some x3 := t3
      have t4 := hf 4 _ rfl
      replace t4 : DataW.trod enc Tryz.prog w base spare held n 66 [v4] = some x4 := t4
      obtain ⟨A2, n2, c2, rfl, b2⟩ := open_body t2
      obtain ⟨z3, e3, _, _⟩ := DataW.trod_int Tryz.underlying68 t3
      obtain rfl : v3 = .int .i64 z3 := by simpa using e3
      obtain ⟨A4, c4, l4, rfl, b4⟩ := open_items t4
      exact ⟨(), ⟨A2, n2, c2, A4, c4, l4, ⟨hc 2 (by omega), hc 4 (by omega)⟩, b2, b4, z3, hc 3 (by omega)⟩, trivial⟩
set_option maxRecDepth 100000 in
theorem open_da {m : Nat} {cs : List Value} {y : DataW H × List MemPlace} (h : DataW.trod enc Tryz.prog w base spare held m 88 cs = some y) (g o : Nat) (hc : ∀ j, j < 4 → w.cell? ⟨g, o + j, none⟩ = cs[j]?) :
    ∃ u : Unit, DaAt (fun g => g < w.heap.size) w g o u ∧ True := by
  obtain ⟨xs, n, rfl, rfl, hlen, hxl, hf⟩ := DataW.trod_struct Tryz.underlying88 h
  rw [cells_da] at hlen
  match cs, hlen with
  | [v0, v1, v2, v3], _ =>
    have hxl2 : xs.length = 4 := hxl
    match xs, hxl2 with
    | [x0, x1, x2, x3], _ =>
      have t2 := hf 2 _ rfl
      replace t2 : DataW.trod enc Tryz.prog w base spare held n 77 [v2] = some x2 := t2
      have t3 := hf 3 _ rfl
      replace t3 : DataW.trod enc Tryz.prog w base spare held n 86 [v3] = some x3 := t3
      obtain ⟨A2, n2, c2, rfl, b2⟩ := open_body t2
      obtain ⟨A3, n3, c3, rfl⟩ := open_bytes t3
      exact ⟨(), ⟨A2, n2, c2, A3, n3, c3, ⟨hc 2 (by omega), hc 3 (by omega)⟩, b2⟩, trivial⟩
set_option maxRecDepth 100000 in
theorem open_cu {m : Nat} {cs : List Value} {y : DataW H × List MemPlace} (h : DataW.trod enc Tryz.prog w base spare held m 90 cs = some y) (g o : Nat) (hc : ∀ j, j < 3 → w.cell? ⟨g, o + j, none⟩ = cs[j]?) :
    ∃ u : Unit, CuAt w g o u ∧ True := by
  obtain ⟨xs, n, rfl, rfl, hlen, hxl, hf⟩ := DataW.trod_struct Tryz.underlying90 h
  rw [cells_cu] at hlen
  match cs, hlen with
  | [v0, v1, v2], _ =>
    have hxl2 : xs.length = 3 := hxl
    match xs, hxl2 with
    | [x0, x1, x2], _ =>
      have t1 := hf 1 _ rfl
      replace t1 : DataW.trod enc Tryz.prog w base spare held n 9 [v1] = some x1 := t1
      have t2 := hf 2 _ rfl
      replace t2 : DataW.trod enc Tryz.prog w base spare held n 86 [v2] = some x2 := t2
      obtain ⟨z1, e1, _⟩ := DataW.trod_string Tryz.underlying9 t1
      obtain rfl : v1 = .string z1 := by simpa using e1
      obtain ⟨A2, n2, c2, rfl⟩ := open_bytes t2
      exact ⟨(), ⟨z1, A2, n2, c2, hc 1 (by omega), hc 2 (by omega)⟩, trivial⟩
set_option maxRecDepth 100000 in
theorem open_im {m : Nat} {cs : List Value} {y : DataW H × List MemPlace} (h : DataW.trod enc Tryz.prog w base spare held m 76 cs = some y) (g o : Nat) (hc : ∀ j, j < 13 → w.cell? ⟨g, o + j, none⟩ = cs[j]?) :
    ∃ f : Im, ImAt w g o f ∧ True := by
  obtain ⟨xs, n, rfl, rfl, hlen, hxl, hf⟩ := DataW.trod_struct Tryz.underlying76 h
  rw [cells_im] at hlen
  match cs, hlen with
  | [v0, v1, v2, v3, v4, v5, v6, v7, v8, v9, v10, v11, v12], _ =>
    have hxl2 : xs.length = 7 := hxl
    match xs, hxl2 with
    | [x0, x1, x2, x3, x4, x5, x6], _ =>
      have t0 := hf 0 _ rfl
      replace t0 : DataW.trod enc Tryz.prog w base spare held n 9 [v0] = some x0 := t0
      have t1 := hf 1 _ rfl
      replace t1 : DataW.trod enc Tryz.prog w base spare held n 9 [v1] = some x1 := t1
      have t2 := hf 2 _ rfl
      replace t2 : DataW.trod enc Tryz.prog w base spare held n 67 [v2] = some x2 := t2
      have t3 := hf 3 _ rfl
      replace t3 : DataW.trod enc Tryz.prog w base spare held n 3 [v3] = some x3 := t3
      have t4 := hf 4 _ rfl
      replace t4 : DataW.trod enc Tryz.prog w base spare held n 72 [v4, v5, v6, v7] = some x4 := t4
      have t5 := hf 5 _ rfl
      replace t5 : DataW.trod enc Tryz.prog w base spare held n 70 [v8, v9, v10] = some x5 := t5
      have t6 := hf 6 _ rfl
      replace t6 : DataW.trod enc Tryz.prog w base spare held n 74 [v11, v12] = some x6 := t6
      obtain ⟨z0, e0, _⟩ := DataW.trod_string Tryz.underlying9 t0
      obtain rfl : v0 = .string z0 := by simpa using e0
      obtain ⟨z1, e1, _⟩ := DataW.trod_string Tryz.underlying9 t1
      obtain rfl : v1 = .string z1 := by simpa using e1
      obtain ⟨z2, e2, _, _⟩ := DataW.trod_int Tryz.underlying67 t2
      obtain rfl : v2 = .int .i64 z2 := by simpa using e2
      obtain ⟨z3, e3, _, _⟩ := DataW.trod_int Tryz.underlying3 t3
      obtain rfl : v3 = .int .i64 z3 := by simpa using e3
      obtain ⟨z4, a4, b4, d4, e4⟩ := open_tab t4
      obtain ⟨rfl, rfl, rfl, rfl⟩ : v4 = .int .i64 z4 ∧ v5 = .int .i64 a4 ∧ v6 = .int .i64 b4 ∧ v7 = .bool d4 := by simpa using e4
      obtain ⟨a5, b5, d5, e5⟩ := open_lim t5
      obtain ⟨rfl, rfl, rfl⟩ : v8 = .int .i64 a5 ∧ v9 = .int .i64 b5 ∧ v10 = .bool d5 := by simpa using e5
      obtain ⟨z6, b6, e6⟩ := open_glo t6
      obtain ⟨rfl, rfl⟩ : v11 = .int .i64 z6 ∧ v12 = .bool b6 := by simpa using e6
      refine ⟨⟨z2, z3, z4, z6, b6⟩, ⟨z0, z1, a4, b4, d4, a5, b5, d5, fun j v hj => ?_⟩, trivial⟩
      have hj13 : j < 13 := by
        rcases Nat.lt_or_ge j 13 with h9 | h9
        · exact h9
        · rw [Array.getElem?_eq_none h9] at hj; cases hj
      rw [hc j hj13]
      simpa using hj
set_option maxRecDepth 100000 in
theorem open_tb {m : Nat} {cs : List Value} {y : DataW H × List MemPlace} (h : DataW.trod enc Tryz.prog w base spare held m 72 cs = some y) (g o : Nat) (hc : ∀ j, j < 4 → w.cell? ⟨g, o + j, none⟩ = cs[j]?) :
    ∃ z : Int, TbAt w g o z ∧ True := by
  obtain ⟨xs, n, rfl, rfl, hlen, hxl, hf⟩ := DataW.trod_struct Tryz.underlying72 h
  rw [cells_tb] at hlen
  match cs, hlen with
  | [v0, v1, v2, v3], _ =>
    have hxl2 : xs.length = 2 := hxl
    match xs, hxl2 with
    | [x0, x1], _ =>
      have t0 := hf 0 _ rfl
      replace t0 : DataW.trod enc Tryz.prog w base spare held n 68 [v0] = some x0 := t0
      have t1 := hf 1 _ rfl
      replace t1 : DataW.trod enc Tryz.prog w base spare held n 70 [v1, v2, v3] = some x1 := t1
      obtain ⟨z0, e0, _, _⟩ := DataW.trod_int Tryz.underlying68 t0
      obtain rfl : v0 = .int .i64 z0 := by simpa using e0
      obtain ⟨a1, b1, d1, e1⟩ := open_lim t1
      obtain ⟨rfl, rfl, rfl⟩ : v1 = .int .i64 a1 ∧ v2 = .int .i64 b1 ∧ v3 = .bool d1 := by simpa using e1
      exact ⟨z0, ⟨a1, b1, d1, hc 0 (by omega), hc 1 (by omega), hc 2 (by omega), hc 3 (by omega)⟩, trivial⟩
set_option maxRecDepth 100000 in
theorem open_fu {m : Nat} {cs : List Value} {y : DataW H × List MemPlace} (h : DataW.trod enc Tryz.prog w base spare held m 36 cs = some y) (g o : Nat) (hc : ∀ j, j < 2 → w.cell? ⟨g, o + j, none⟩ = cs[j]?) :
    ∃ f : List Int × List Int, TyAt w g o f ∧ True := by
  obtain ⟨xs, n, rfl, rfl, hlen, hxl, hf⟩ := DataW.trod_struct Tryz.underlying36 h
  rw [cells_fu] at hlen
  match cs, hlen with
  | [v0, v1], _ =>
    have hxl2 : xs.length = 2 := hxl
    match xs, hxl2 with
    | [x0, x1], _ =>
      have t0 := hf 0 _ rfl
      replace t0 : DataW.trod enc Tryz.prog w base spare held n 34 [v0] = some x0 := t0
      have t1 := hf 1 _ rfl
      replace t1 : DataW.trod enc Tryz.prog w base spare held n 34 [v1] = some x1 := t1
      obtain ⟨A0, c0, l0, rfl, _⟩ := open_vals_ t0
      obtain ⟨A1, c1, l1, rfl, _⟩ := open_vals_ t1
      exact ⟨(l0, l1), ⟨A0, c0, A1, c1, hc 0 (by omega), hc 1 (by omega)⟩, trivial⟩
end
set_option maxRecDepth 100000 in
set_option maxHeartbeats 2000000 in
theorem open_md {H : Type} {enc : TypeId × Value → H} {w : World} {base : Nat} {held : Bool} {r : Reach} {b0 : Nat} {v : Value} {d : DataW H} {p : List MemPlace}
    (hv : Value.okWide Tryz.prog w r b0 33 v) (h : DataW.Trod enc Tryz.prog w base (fun _ => true) held 33 v d p) :
    ∃ (m : Md) (x : MX), v = .agg (mdA m x) ∧ x.One ∧ MdL (fun g => g < w.heap.size) w m x := by
  obtain ⟨cs, rfl, hsz⟩ := okWide_struct Tryz.underlying33 hv
  rw [cells_md] at hsz
  obtain ⟨fuel, hf⟩ := h
  obtain ⟨L⟩ := cs
  replace hf : DataW.trod enc Tryz.prog w base (fun _ => true) held fuel 33 L = some (d, p) := hf
  obtain ⟨xs, n, rfl, hdp, hlen, hxl, hf⟩ := DataW.trod_struct Tryz.underlying33 hf
  have hL12 : L.length = 12 := hsz
  match L, hL12 with
  | [v0, v1, v2, v3, v4, v5, v6, v7, v8, v9, v10, v11], _ =>
    have hxl3 : xs.length = 12 := hxl
    match xs, hxl3 with
    | [x0, x1, x2, x3, x4, x5, x6, x7, x8, x9, x10, x11], _ =>
      have t0 := hf 0 _ rfl
      replace t0 : DataW.trod enc Tryz.prog w base (fun _ => true) held n 22 [v0] = some x0 := t0
      have t1 := hf 1 _ rfl
      replace t1 : DataW.trod enc Tryz.prog w base (fun _ => true) held n 23 [v1] = some x1 := t1
      have t2 := hf 2 _ rfl
      replace t2 : DataW.trod enc Tryz.prog w base (fun _ => true) held n 24 [v2] = some x2 := t2
      have t3 := hf 3 _ rfl
      replace t3 : DataW.trod enc Tryz.prog w base (fun _ => true) held n 25 [v3] = some x3 := t3
      have t4 := hf 4 _ rfl
      replace t4 : DataW.trod enc Tryz.prog w base (fun _ => true) held n 26 [v4] = some x4 := t4
      have t5 := hf 5 _ rfl
      replace t5 : DataW.trod enc Tryz.prog w base (fun _ => true) held n 27 [v5] = some x5 := t5
      have t6 := hf 6 _ rfl
      replace t6 : DataW.trod enc Tryz.prog w base (fun _ => true) held n 28 [v6] = some x6 := t6
      have t7 := hf 7 _ rfl
      replace t7 : DataW.trod enc Tryz.prog w base (fun _ => true) held n 4 [v7] = some x7 := t7
      have t8 := hf 8 _ rfl
      replace t8 : DataW.trod enc Tryz.prog w base (fun _ => true) held n 3 [v8] = some x8 := t8
      have t9 := hf 9 _ rfl
      replace t9 : DataW.trod enc Tryz.prog w base (fun _ => true) held n 29 [v9] = some x9 := t9
      have t10 := hf 10 _ rfl
      replace t10 : DataW.trod enc Tryz.prog w base (fun _ => true) held n 30 [v10] = some x10 := t10
      have t11 := hf 11 _ rfl
      replace t11 : DataW.trod enc Tryz.prog w base (fun _ => true) held n 31 [v11] = some x11 := t11
      obtain ⟨A0, c0, l0, e0, r0, _, _, _⟩ := open_slice_gen Tryz.underlying22 cells_fu (by omega) TyAt (fun _ => True) (fun m cs y hm ht hl g o hc => open_fu ht g o hc) t0
      obtain rfl : v0 = .slice A0 l0.length c0 := by simpa using e0
      obtain ⟨A1, c1, l1, e1, r1, _, _, _⟩ := open_slice_gen Tryz.underlying23 cells_im (by omega) ImAt (fun _ => True) (fun m cs y hm ht hl g o hc => open_im ht g o hc) t1
      obtain rfl : v1 = .slice A1 l1.length c1 := by simpa using e1
      obtain ⟨A2, c2, l2, e2, r2, _, _, _⟩ := open_slice_gen Tryz.underlying24 cells_cd (by omega) (CdL (fun g => g < w.heap.size)) (fun _ => True) (fun m cs y hm ht hl g o hc => open_cd ht g o hc) t2
      obtain rfl : v2 = .slice A2 l2.length c2 := by simpa using e2
      obtain ⟨A3, c3, l3, e3, r3, _, _, _⟩ := open_slice_gen Tryz.underlying25 cells_tb (by omega) TbAt (fun _ => True) (fun m cs y hm ht hl g o hc => open_tb ht g o hc) t3
      obtain rfl : v3 = .slice A3 l3.length c3 := by simpa using e3
      obtain ⟨A5, c5, l5, e5, r5, _, _, _⟩ := open_slice_gen Tryz.underlying27 cells_gd (by omega) (GdL (fun g => g < w.heap.size)) (fun _ => True) (fun m cs y hm ht hl g o hc => open_gd ht g o hc) t5
      obtain rfl : v5 = .slice A5 l5.length c5 := by simpa using e5
      obtain ⟨A6, c6, l6, e6, r6, _, _, _⟩ := open_slice_gen Tryz.underlying28 cells_ex (by omega) ExAt (fun _ => True) (fun m cs y hm ht hl g o hc => open_ex ht g o hc) t6
      obtain rfl : v6 = .slice A6 l6.length c6 := by simpa using e6
      obtain ⟨A9, c9, l9, e9, r9, _, _, _⟩ := open_slice_gen Tryz.underlying29 cells_el (by omega) (ElAt (fun g => g < w.heap.size)) (fun _ => True) (fun m cs y hm ht hl g o hc => open_el ht g o hc) t9
      obtain rfl : v9 = .slice A9 l9.length c9 := by simpa using e9
      obtain ⟨A10, c10, l10, e10, r10, _, _, _⟩ := open_slice_gen Tryz.underlying30 cells_da (by omega) (DaAt (fun g => g < w.heap.size)) (fun _ => True) (fun m cs y hm ht hl g o hc => open_da ht g o hc) t10
      obtain rfl : v10 = .slice A10 l10.length c10 := by simpa using e10
      obtain ⟨A11, c11, l11, e11, r11, _, _, _⟩ := open_slice_gen Tryz.underlying31 cells_cu (by omega) CuAt (fun _ => True) (fun m cs y hm ht hl g o hc => open_cu ht g o hc) t11
      obtain rfl : v11 = .slice A11 l11.length c11 := by simpa using e11
      obtain ⟨A4, n4, c4, rfl⟩ := open_any Tryz.underlying26 cells_li (by omega) t4
      obtain ⟨z7, e7, _⟩ := DataW.trod_bool Tryz.underlying4 t7
      obtain rfl : v7 = .bool z7 := by simpa using e7
      obtain ⟨z8, e8, _, _⟩ := DataW.trod_int Tryz.underlying3 t8
      obtain rfl : v8 = .int .i64 z8 := by simpa using e8
      exact ⟨⟨l0, l1, l2, l3, n4, l5, l9.length, l10.length⟩, ⟨A0, c0, A1, c1, A2, c2, A3, c3, A4, c4, A5, c5, .slice A6 l6.length c6, .bool z7, .int .i64 z8, A9, c9, A10, c10, .slice A11 l11.length c11⟩, rfl, ⟨⟨_, _, _, rfl⟩, ⟨_, rfl⟩, ⟨_, rfl⟩, ⟨_, _, _, rfl⟩⟩, ⟨r0, r1, r2, r3, r5, ⟨A6, c6, l6, rfl, r6⟩, ⟨l9, rfl, r9⟩, ⟨l10, rfl, r10⟩, A11, c11, l11, rfl, r11⟩⟩
end Go.Proofs.YtadnfekogmjieaaGreatDoor
