/-
  Layer 51: a module in memory, and the state of read. (Printed by gen_mc11.py.)
-/
import Derived.Test.YtadnfekogmjieaaGreatDoorEMC5
import Derived.Test.YtadnfekogmjieaaGreatDoorEMQ2
set_option linter.unusedVariables false
set_option linter.unusedSimpArgs false
namespace Go.Proofs.YtadnfekogmjieaaGreatDoor
open Go.RowKit
open Mc (Pl Mi Mf Th Wt Im Md)
/-- Where the parts of a module lie, and its other cells. -/
structure MX where
  TA : Option Addr
  tc : Nat
  IA : Option Addr
  ic : Nat
  FA : Option Addr
  fc : Nat
  BA : Option Addr
  bc : Nat
  MA : Option Addr
  mc : Nat
  GA : Option Addr
  gc : Nat
  v6 : Value
  v7 : Value
  v8 : Value
  EA : Option Addr
  ec : Nat
  DA : Option Addr
  dc : Nat
  v11 : Value
def mdA (m : Md) (x : MX) : Array Value := #[.slice x.TA m.types.length x.tc, .slice x.IA m.imps.length x.ic, .slice x.FA m.funcs.length x.fc, .slice x.BA m.tables.length x.bc, .slice x.MA m.mems x.mc, .slice x.GA m.globals.length x.gc, x.v6, x.v7, x.v8, .slice x.EA m.elems x.ec, .slice x.DA m.datas x.dc, x.v11]
/-- The things' cells of a module: its own, then the items'. -/
def txOf (m : Md) (x : MX) (F : Option Addr) (fc : Nat) (B : Option Addr) (bc : Nat) (G : Option Addr) (gc : Nat) : TX :=
  ⟨x.TA, x.tc, .slice x.IA m.imps.length x.ic, .slice x.FA m.funcs.length x.fc, .slice x.BA m.tables.length x.bc, .slice x.MA m.mems x.mc, .slice x.GA m.globals.length x.gc, x.v6, x.v7, x.v8, x.EA, x.ec, x.DA, x.dc, x.v11, F, fc, B, bc, G, gc⟩
/-- An import: thirteen cells. -/
def ImAt (w : World) (g o : Nat) (x : Im) : Prop := ∃ (u0 u1 : ByteArray) (l0 l1 : Int) (l2 : Bool) (n0 n1 : Int) (n2 : Bool), ∀ (j : Nat) v, (#[.string u0, .string u1, .int .i64 x.kind, .int .i64 x.func, .int .i64 x.elem, .int .i64 l0, .int .i64 l1, .bool l2, .int .i64 n0, .int .i64 n1, .bool n2, .int .i64 x.gtyp, .bool x.gmut] : Array Value)[j]? = some v → w.cell? ⟨g, o + j, none⟩ = some v
def CdAt (w : World) (g o : Nat) (z : Int) : Prop := ∃ (A : Option Addr) (n c : Nat) (B : Option Addr) (k d : Nat), w.cell? ⟨g, o, none⟩ = some (.int .i64 z) ∧ w.cell? ⟨g, o + 1, none⟩ = some (.slice A n c) ∧ w.cell? ⟨g, o + 2, none⟩ = some (.slice B k d)
def TbAt (w : World) (g o : Nat) (z : Int) : Prop := ∃ (u1 u2 : Int) (u3 : Bool), w.cell? ⟨g, o, none⟩ = some (.int .i64 z) ∧ w.cell? ⟨g, o + 1, none⟩ = some (.int .i64 u1) ∧ w.cell? ⟨g, o + 2, none⟩ = some (.int .i64 u2) ∧ w.cell? ⟨g, o + 3, none⟩ = some (.bool u3)
def GdAt (w : World) (g o : Nat) (x : Int × Bool) : Prop := ∃ (A : Option Addr) (n c : Nat), w.cell? ⟨g, o, none⟩ = some (.int .i64 x.1) ∧ w.cell? ⟨g, o + 1, none⟩ = some (.bool x.2) ∧ w.cell? ⟨g, o + 2, none⟩ = some (.slice A n c)
structure MdRd (S : Nat → Prop) (w : World) (m : Md) (x : MX) : Prop where
  ty : RdT w S x.TA 2 TyAt m.types
  im : RdT w S x.IA 13 ImAt m.imps
  fn : RdT w S x.FA 3 CdAt m.funcs
  tb : RdT w S x.BA 4 TbAt m.tables
  gl : RdT w S x.GA 3 GdAt m.globals
section
variable {S S' : Nat → Prop} {w w' : World} {m : Md} {x : MX}
theorem ImAt.keep (hk : Keep S w w') (g o : Nat) (f : Im) (hg : S g) (h : ImAt w g o f) : ImAt w' g o f := by
  obtain ⟨u0, u1, l0, l1, l2, n0, n1, n2, h⟩ := h
  exact ⟨u0, u1, l0, l1, l2, n0, n1, n2, fun j v hj => hk _ _ hg (h j v hj)⟩
theorem CdAt.keep (hk : Keep S w w') (g o : Nat) (f : Int) (hg : S g) (h : CdAt w g o f) : CdAt w' g o f := by
  obtain ⟨A, n, c, B, k, d, h1, h2, h3⟩ := h
  exact ⟨A, n, c, B, k, d, hk _ _ hg h1, hk _ _ hg h2, hk _ _ hg h3⟩
theorem TbAt.keep (hk : Keep S w w') (g o : Nat) (f : Int) (hg : S g) (h : TbAt w g o f) : TbAt w' g o f := by
  obtain ⟨u1, u2, u3, h1, h2, h3, h4⟩ := h
  exact ⟨u1, u2, u3, hk _ _ hg h1, hk _ _ hg h2, hk _ _ hg h3, hk _ _ hg h4⟩
theorem GdAt.keep (hk : Keep S w w') (g o : Nat) (f : Int × Bool) (hg : S g) (h : GdAt w g o f) : GdAt w' g o f := by
  obtain ⟨A, n, c, h1, h2, h3⟩ := h
  exact ⟨A, n, c, hk _ _ hg h1, hk _ _ hg h2, hk _ _ hg h3⟩
theorem MdRd.keep (h : MdRd S w m x) (hk : Keep S w w') (hs : w.heap.size ≤ w'.heap.size) : MdRd S w' m x :=
  ⟨RdT.keep (fun g o f hg hf => TyAt.keep hk g o f hg hf) hs h.ty, RdT.keep (fun g o f hg hf => ImAt.keep hk g o f hg hf) hs h.im, RdT.keep (fun g o f hg hf => CdAt.keep hk g o f hg hf) hs h.fn, RdT.keep (fun g o f hg hf => TbAt.keep hk g o f hg hf) hs h.tb, RdT.keep (fun g o f hg hf => GdAt.keep hk g o f hg hf) hs h.gl⟩
theorem MdRd.on (h : MdRd S w m x) (hb : Below w.heap.size w w') : MdRd S w' m x := h.keep (Below.keep hb S) hb.size
end
/-- The items read so far. -/
def thP (m : Md) (FL BL : List Int) (M : Nat) (GL : List (Int × Bool)) : Th := ⟨m.types, FL, BL, M, GL, m.elems, m.datas⟩
def encG (x : Int × Bool) : List Value := [.int .i64 x.1, .bool x.2]
theorem encG_len (x : Int × Bool) : (encG x).length = 2 := rfl
theorem encG_one (x : Int × Bool) : ∀ u ∈ encG x, u.oneCell' = true := by simp [encG, Value.oneCell']
theorem own_two {W W' : World} {b1 b2 k1 k2 n1 n2 : Nat} {e1 e2 : TypeId} {v1 v2 : Value} {x1 x2 : List Value} (h1 : W.ownsRow b1 e1 k1 v1 n1 x1) (h2 : W.ownsRow b2 e2 k2 v2 n2 x2) (hne : e1 ≠ e2) (hg : W.grownBy W' v1.ownBlock) : W'.ownsRow b2 e2 k2 v2 n2 x2 := by
  have ha := own_apart h1 h2 hne
  cases hb : v1.ownBlock with
  | none =>
    rw [hb] at hg
    refine h2.kept hg ?_
    cases hv : v2.ownBlock with
    | none => exact .inl rfl
    | some j => exact .inr (by simp)
  | some j => rw [hb] at hg; exact h2.kept hg (.inr (ha j hb))
/-- The state of read. -/
structure RSt (w W : World) (m : Md) (x : MX) (rs : Array Value) (F : Option Addr) (fc : Nat) (FL : List Int) (B : Option Addr) (bc : Nat) (BL : List Int) (M : Nat) (G : Option Addr) (gc : Nat) (GL : List (Int × Bool)) : Prop where
  bel : Below w.heap.size w W
  md : Var W w.heap.size (mdA m x) 33
  res : Var W (w.heap.size + 1) rs 97
  th : Var W (w.heap.size + 2) (thA (thP m FL BL M GL) (txOf m x F fc B bc G gc)) 97
  oF : W.ownsRow (w.heap.size + 3) 3 1 (.slice F FL.length fc) FL.length (FL.flatMap encZ)
  oB : W.ownsRow (w.heap.size + 3) 68 1 (.slice B BL.length bc) BL.length (BL.flatMap encZ)
  oG : W.ownsRow (w.heap.size + 3) 74 2 (.slice G GL.length gc) GL.length (GL.flatMap encG)
section
variable {w W W' : World} {m : Md} {x : MX} {rs : Array Value} {F B G : Option Addr} {fc bc gc : Nat} {FL BL : List Int} {M : Nat} {GL : List (Int × Bool)}
theorem RSt.below (h : RSt w W m x rs F fc FL B bc BL M G gc GL) (hb : Below W.heap.size W W') : RSt w W' m x rs F fc FL B bc BL M G gc GL :=
  ⟨h.bel.trans (hb.mono h.bel.size), var_keep h.md hb, var_keep h.res hb, var_keep h.th hb, own_belowW h.oF hb, own_belowW h.oB hb, own_belowW h.oG hb⟩
/-- A function's type appended. -/
theorem RSt.appF (h : RSt w W m x rs F fc FL B bc BL M G gc GL) {z : Int} {A' : Option Addr} {c' : Nat} (own : W'.ownsRow (w.heap.size + 3) 3 1 (.slice A' (FL.length + 1) c') (FL.length + 1) ((FL ++ [z]).flatMap encZ)) (hg : W.grownBy W' (Value.slice F FL.length fc).ownBlock) :
    RSt w (W'.setCell ⟨w.heap.size + 2, 12, none⟩ (.slice A' (FL.length + 1) c')) m x rs A' c' (FL ++ [z]) B bc BL M G gc GL := by
  have hl : (FL ++ [z]).length = FL.length + 1 := by simp
  have hge : ∀ j, (Value.slice F FL.length fc).ownBlock = some j → w.heap.size + 3 ≤ j := fun j hj => (h.oF.lt j hj).1
  have gs := grown_set W' (w.heap.size + 2) 12 (.slice A' (FL.length + 1) c')
  have k1 := (var_grown h.th h.oF (by decide) hg).set 12 (.slice A' (FL.length + 1) c')
  refine ⟨(h.bel.grown hg h.bel.size (fun j hj => by have := hge j hj; omega)).setCell (p := ⟨w.heap.size + 2, 12, none⟩) (by show w.heap.size ≤ w.heap.size + 2; omega) _, var_stay (var_grown h.md h.oF (by decide) hg) gs (by omega), var_stay (var_grown h.res h.oF (by decide) hg) gs (by omega), ?_, by rw [hl]; exact own_stay own gs (by omega), own_stay (own_two h.oF h.oB (by decide) hg) gs (by omega), own_stay (own_two h.oF h.oG (by decide) hg) gs (by omega)⟩
  rw [show thA (thP m (FL ++ [z]) BL M GL) (txOf m x A' c' B bc G gc) = (thA (thP m FL BL M GL) (txOf m x F fc B bc G gc)).setIfInBounds 12 (.slice A' (FL.length + 1) c') by simp [thA, txOf, thP]]
  exact k1
/-- A table appended. -/
theorem RSt.appB (h : RSt w W m x rs F fc FL B bc BL M G gc GL) {z : Int} {A' : Option Addr} {c' : Nat} (own : W'.ownsRow (w.heap.size + 3) 68 1 (.slice A' (BL.length + 1) c') (BL.length + 1) ((BL ++ [z]).flatMap encZ)) (hg : W.grownBy W' (Value.slice B BL.length bc).ownBlock) :
    RSt w (W'.setCell ⟨w.heap.size + 2, 13, none⟩ (.slice A' (BL.length + 1) c')) m x rs F fc FL A' c' (BL ++ [z]) M G gc GL := by
  have hl : (BL ++ [z]).length = BL.length + 1 := by simp
  have hge : ∀ j, (Value.slice B BL.length bc).ownBlock = some j → w.heap.size + 3 ≤ j := fun j hj => (h.oB.lt j hj).1
  have gs := grown_set W' (w.heap.size + 2) 13 (.slice A' (BL.length + 1) c')
  have k1 := (var_grown h.th h.oB (by decide) hg).set 13 (.slice A' (BL.length + 1) c')
  refine ⟨(h.bel.grown hg h.bel.size (fun j hj => by have := hge j hj; omega)).setCell (p := ⟨w.heap.size + 2, 13, none⟩) (by show w.heap.size ≤ w.heap.size + 2; omega) _, var_stay (var_grown h.md h.oB (by decide) hg) gs (by omega), var_stay (var_grown h.res h.oB (by decide) hg) gs (by omega), ?_, own_stay (own_two h.oB h.oF (by decide) hg) gs (by omega), by rw [hl]; exact own_stay own gs (by omega), own_stay (own_two h.oB h.oG (by decide) hg) gs (by omega)⟩
  rw [show thA (thP m FL (BL ++ [z]) M GL) (txOf m x F fc A' c' G gc) = (thA (thP m FL BL M GL) (txOf m x F fc B bc G gc)).setIfInBounds 13 (.slice A' (BL.length + 1) c') by simp [thA, txOf, thP]]
  exact k1
/-- A global appended. -/
theorem RSt.appG (h : RSt w W m x rs F fc FL B bc BL M G gc GL) {z : (Int × Bool)} {A' : Option Addr} {c' : Nat} (own : W'.ownsRow (w.heap.size + 3) 74 2 (.slice A' (GL.length + 1) c') (GL.length + 1) ((GL ++ [z]).flatMap encG)) (hg : W.grownBy W' (Value.slice G GL.length gc).ownBlock) :
    RSt w (W'.setCell ⟨w.heap.size + 2, 15, none⟩ (.slice A' (GL.length + 1) c')) m x rs F fc FL B bc BL M A' c' (GL ++ [z]) := by
  have hl : (GL ++ [z]).length = GL.length + 1 := by simp
  have hge : ∀ j, (Value.slice G GL.length gc).ownBlock = some j → w.heap.size + 3 ≤ j := fun j hj => (h.oG.lt j hj).1
  have gs := grown_set W' (w.heap.size + 2) 15 (.slice A' (GL.length + 1) c')
  have k1 := (var_grown h.th h.oG (by decide) hg).set 15 (.slice A' (GL.length + 1) c')
  refine ⟨(h.bel.grown hg h.bel.size (fun j hj => by have := hge j hj; omega)).setCell (p := ⟨w.heap.size + 2, 15, none⟩) (by show w.heap.size ≤ w.heap.size + 2; omega) _, var_stay (var_grown h.md h.oG (by decide) hg) gs (by omega), var_stay (var_grown h.res h.oG (by decide) hg) gs (by omega), ?_, own_stay (own_two h.oG h.oF (by decide) hg) gs (by omega), own_stay (own_two h.oG h.oB (by decide) hg) gs (by omega), by rw [hl]; exact own_stay own gs (by omega)⟩
  rw [show thA (thP m FL BL M (GL ++ [z])) (txOf m x F fc B bc A' c') = (thA (thP m FL BL M GL) (txOf m x F fc B bc G gc)).setIfInBounds 15 (.slice A' (GL.length + 1) c') by simp [thA, txOf, thP]]
  exact k1
/-- A memory counted. -/
theorem RSt.incM (h : RSt w W m x rs F fc FL B bc BL M G gc GL) : RSt w (W.setCell ⟨w.heap.size + 2, 14, none⟩ (.int .i64 ((M + 1 : Nat) : Int))) m x rs F fc FL B bc BL (M + 1) G gc GL := by
  have gs := grown_set W (w.heap.size + 2) 14 (.int .i64 ((M + 1 : Nat) : Int))
  have k1 := h.th.set 14 (.int .i64 ((M + 1 : Nat) : Int))
  refine ⟨h.bel.setCell (p := ⟨w.heap.size + 2, 14, none⟩) (by show w.heap.size ≤ w.heap.size + 2; omega) _, var_stay h.md gs (by omega), var_stay h.res gs (by omega), ?_, own_stay h.oF gs (by omega), own_stay h.oB gs (by omega), own_stay h.oG gs (by omega)⟩
  rw [show thA (thP m FL BL (M + 1) GL) (txOf m x F fc B bc G gc) = (thA (thP m FL BL M GL) (txOf m x F fc B bc G gc)).setIfInBounds 14 (.int .i64 ((M + 1 : Nat) : Int)) by simp [thA, txOf, thP]]
  exact k1
end
end Go.Proofs.YtadnfekogmjieaaGreatDoor
