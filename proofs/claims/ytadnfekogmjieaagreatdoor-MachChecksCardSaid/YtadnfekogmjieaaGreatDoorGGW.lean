/-
  Layer 51: a module in memory, and the state of read. (Printed by gen_mc11.py.)
  Layer 51, the program: read. (Printed by gen_mc12.py.)
-/
import Derived.Test.YtadnfekogmjieaaGreatDoorGMC5
import Derived.Test.YtadnfekogmjieaaGreatDoorGMQ2
import Derived.Test.YtadnfekogmjieaaGreatDoorGMQ3
set_option linter.unusedVariables false
set_option linter.unusedSimpArgs false
namespace Go.Proofs.YtadnfekogmjieaaGreatDoor
open Go.RowKit
open Mc (Pl Mi Mf Th Wt Im Md)
structure MX where
  TA : Option Addr
  tc : Nat
  IA : Option Addr
  ic : Nat
  FA : Option Addr
  fc : Nat
  BA : Option Addr
  bc : Nat
  MA : Option Addr
  mc : Nat
  GA : Option Addr
  gc : Nat
  v6 : Value
  v7 : Value
  v8 : Value
  EA : Option Addr
  ec : Nat
  DA : Option Addr
  dc : Nat
  v11 : Value
def mdA (m : Md) (x : MX) : Array Value := #[.slice x.TA m.types.length x.tc, .slice x.IA m.imps.length x.ic, .slice x.FA m.funcs.length x.fc, .slice x.BA m.tables.length x.bc, .slice x.MA m.mems x.mc, .slice x.GA m.globals.length x.gc, x.v6, x.v7, x.v8, .slice x.EA m.elems x.ec, .slice x.DA m.datas x.dc, x.v11]
def txOf (m : Md) (x : MX) (F : Option Addr) (fc : Nat) (B : Option Addr) (bc : Nat) (G : Option Addr) (gc : Nat) : TX :=
  ⟨x.TA, x.tc, .slice x.IA m.imps.length x.ic, .slice x.FA m.funcs.length x.fc, .slice x.BA m.tables.length x.bc, .slice x.MA m.mems x.mc, .slice x.GA m.globals.length x.gc, x.v6, x.v7, x.v8, x.EA, x.ec, x.DA, x.dc, x.v11, F, fc, B, bc, G, gc⟩
def ImAt (w : World) (g o : Nat) (x : Im) : Prop := ∃ (u0 u1 : ByteArray) (l0 l1 : Int) (l2 : Bool) (n0 n1 : Int) (n2 : Bool), ∀ (j : Nat) v, (#[.string u0, .string u1, .int .i64 x.kind, .int .i64 x.func, .int .i64 x.elem, .int .i64 l0, .int .i64 l1, .bool l2, .int .i64 n0, .int .i64 n1, .bool n2, .int .i64 x.gtyp, .bool x.gmut] : Array Value)[j]? = some v → w.cell? ⟨g, o + j, none⟩ = some v
def CdAt (w : World) (g o : Nat) (z : Int) : Prop := ∃ (A : Option Addr) (n c : Nat) (B : Option Addr) (k d : Nat), w.cell? ⟨g, o, none⟩ = some (.int .i64 z) ∧ w.cell? ⟨g, o + 1, none⟩ = some (.slice A n c) ∧ w.cell? ⟨g, o + 2, none⟩ = some (.slice B k d)
def TbAt (w : World) (g o : Nat) (z : Int) : Prop := ∃ (u1 u2 : Int) (u3 : Bool), w.cell? ⟨g, o, none⟩ = some (.int .i64 z) ∧ w.cell? ⟨g, o + 1, none⟩ = some (.int .i64 u1) ∧ w.cell? ⟨g, o + 2, none⟩ = some (.int .i64 u2) ∧ w.cell? ⟨g, o + 3, none⟩ = some (.bool u3)
def GdAt (w : World) (g o : Nat) (x : Int × Bool) : Prop := ∃ (A : Option Addr) (n c : Nat), w.cell? ⟨g, o, none⟩ = some (.int .i64 x.1) ∧ w.cell? ⟨g, o + 1, none⟩ = some (.bool x.2) ∧ w.cell? ⟨g, o + 2, none⟩ = some (.slice A n c)
structure MdRd (S : Nat → Prop) (w : World) (m : Md) (x : MX) : Prop where
  ty : RdT w S x.TA 2 TyAt m.types
  im : RdT w S x.IA 13 ImAt m.imps
  fn : RdT w S x.FA 3 CdAt m.funcs
  tb : RdT w S x.BA 4 TbAt m.tables
  gl : RdT w S x.GA 3 GdAt m.globals
section
variable {S S' : Nat → Prop} {w w' : World} {m : Md} {x : MX}
theorem ImAt.keep (hk : Keep S w w') (g o : Nat) (f : Im) (hg : S g) (h : ImAt w g o f) : ImAt w' g o f := by
  obtain ⟨u0, u1, l0, l1, l2, n0, n1, n2, h⟩ := h
  exact ⟨u0, u1, l0, l1, l2, n0, n1, n2, fun j v hj => hk _ _ hg (h j v hj)⟩
theorem CdAt.keep (hk : Keep S w w') (g o : Nat) (f : Int) (hg : S g) (h : CdAt w g o f) : CdAt w' g o f := by
  obtain ⟨A, n, c, B, k, d, h1, h2, h3⟩ := h
  exact ⟨A, n, c, B, k, d, hk _ _ hg h1, hk _ _ hg h2, hk _ _ hg h3⟩
theorem TbAt.keep (hk : Keep S w w') (g o : Nat) (f : Int) (hg : S g) (h : TbAt w g o f) : TbAt w' g o f := by
  obtain ⟨u1, u2, u3, h1, h2, h3, h4⟩ := h
  exact ⟨u1, u2, u3, hk _ _ hg h1, hk _ _ hg h2, hk _ _ hg h3, hk _ _ hg h4⟩
theorem GdAt.keep (hk : Keep S w w') (g o : Nat) (f : Int × Bool) (hg : S g) (h : GdAt w g o f) : GdAt w' g o f := by
  obtain ⟨A, n, c, h1, h2, h3⟩ := h
  exact ⟨A, n, c, hk _ _ hg h1, hk _ _ hg h2, hk _ _ hg h3⟩
theorem MdRd.keep (h : MdRd S w m x) (hk : Keep S w w') (hs : w.heap.size ≤ w'.heap.size) : MdRd S w' m x :=
  ⟨RdT.keep (fun g o f hg hf => TyAt.keep hk g o f hg hf) hs h.ty, RdT.keep (fun g o f hg hf => ImAt.keep hk g o f hg hf) hs h.im, RdT.keep (fun g o f hg hf => CdAt.keep hk g o f hg hf) hs h.fn, RdT.keep (fun g o f hg hf => TbAt.keep hk g o f hg hf) hs h.tb, RdT.keep (fun g o f hg hf => GdAt.keep hk g o f hg hf) hs h.gl⟩
theorem MdRd.on (h : MdRd S w m x) (hb : Below w.heap.size w w') : MdRd S w' m x := h.keep (Below.keep hb S) hb.size
end
def thP (m : Md) (FL BL : List Int) (M : Nat) (GL : List (Int × Bool)) : Th := ⟨m.types, FL, BL, M, GL, m.elems, m.datas⟩
def encG (x : Int × Bool) : List Value := [.int .i64 x.1, .bool x.2]
theorem encG_len (x : Int × Bool) : (encG x).length = 2 := rfl
theorem encG_one (x : Int × Bool) : ∀ u ∈ encG x, u.oneCell' = true := by simp [encG, Value.oneCell']
theorem own_two {W W' : World} {b1 b2 k1 k2 n1 n2 : Nat} {e1 e2 : TypeId} {v1 v2 : Value} {x1 x2 : List Value} (h1 : W.ownsRow b1 e1 k1 v1 n1 x1) (h2 : W.ownsRow b2 e2 k2 v2 n2 x2) (hne : e1 ≠ e2) (hg : W.grownBy W' v1.ownBlock) : W'.ownsRow b2 e2 k2 v2 n2 x2 := by
  have ha := own_apart h1 h2 hne
  cases hb : v1.ownBlock with
  | none =>
    rw [hb] at hg
    refine h2.kept hg ?_
    cases hv : v2.ownBlock with
    | none => exact .inl rfl
    | some j => exact .inr (by simp)
  | some j => rw [hb] at hg; exact h2.kept hg (.inr (ha j hb))
structure RSt (w W : World) (m : Md) (x : MX) (rs : Array Value) (F : Option Addr) (fc : Nat) (FL : List Int) (B : Option Addr) (bc : Nat) (BL : List Int) (M : Nat) (G : Option Addr) (gc : Nat) (GL : List (Int × Bool)) : Prop where
  bel : Below w.heap.size w W
  md : Var W w.heap.size (mdA m x) 33
  res : Var W (w.heap.size + 1) rs 97
  th : Var W (w.heap.size + 2) (thA (thP m FL BL M GL) (txOf m x F fc B bc G gc)) 97
  oF : W.ownsRow (w.heap.size + 3) 3 1 (.slice F FL.length fc) FL.length (FL.flatMap encZ)
  oB : W.ownsRow (w.heap.size + 3) 68 1 (.slice B BL.length bc) BL.length (BL.flatMap encZ)
  oG : W.ownsRow (w.heap.size + 3) 74 2 (.slice G GL.length gc) GL.length (GL.flatMap encG)
section
variable {w W W' : World} {m : Md} {x : MX} {rs : Array Value} {F B G : Option Addr} {fc bc gc : Nat} {FL BL : List Int} {M : Nat} {GL : List (Int × Bool)}
theorem RSt.below (h : RSt w W m x rs F fc FL B bc BL M G gc GL) (hb : Below W.heap.size W W') : RSt w W' m x rs F fc FL B bc BL M G gc GL :=
  ⟨h.bel.trans (hb.mono h.bel.size), var_keep h.md hb, var_keep h.res hb, var_keep h.th hb, own_belowW h.oF hb, own_belowW h.oB hb, own_belowW h.oG hb⟩
theorem RSt.appF (h : RSt w W m x rs F fc FL B bc BL M G gc GL) {z : Int} {A' : Option Addr} {c' : Nat} (own : W'.ownsRow (w.heap.size + 3) 3 1 (.slice A' (FL.length + 1) c') (FL.length + 1) ((FL ++ [z]).flatMap encZ)) (hg : W.grownBy W' (Value.slice F FL.length fc).ownBlock) :
    RSt w (W'.setCell ⟨w.heap.size + 2, 12, none⟩ (.slice A' (FL.length + 1) c')) m x rs A' c' (FL ++ [z]) B bc BL M G gc GL := by
  have hl : (FL ++ [z]).length = FL.length + 1 := by simp
  have hge : ∀ j, (Value.slice F FL.length fc).ownBlock = some j → w.heap.size + 3 ≤ j := fun j hj => (h.oF.lt j hj).1
  have gs := grown_set W' (w.heap.size + 2) 12 (.slice A' (FL.length + 1) c')
  have k1 := (var_grown h.th h.oF (by decide) hg).set 12 (.slice A' (FL.length + 1) c')
  refine ⟨(h.bel.grown hg h.bel.size (fun j hj => by have := hge j hj; omega)).setCell (p := ⟨w.heap.size + 2, 12, none⟩) (by show w.heap.size ≤ w.heap.size + 2; omega) _, var_stay (var_grown h.md h.oF (by decide) hg) gs (by omega), var_stay (var_grown h.res h.oF (by decide) hg) gs (by omega), ?_, by rw [hl]; exact own_stay own gs (by omega), own_stay (own_two h.oF h.oB (by decide) hg) gs (by omega), own_stay (own_two h.oF h.oG (by decide) hg) gs (by omega)⟩
  rw [show thA (thP m (FL ++ [z]) BL M GL) (txOf m x A' c' B bc G gc) = (thA (thP m FL BL M GL) (txOf m x F fc B bc G gc)).setIfInBounds 12 (.slice A' (FL.length + 1) c') by simp [thA, txOf, thP]]
  exact k1
theorem RSt.appB (h : RSt w W m x rs F fc FL B bc BL M G gc GL) {z : Int} {A' : Option Addr} {c' : Nat} (own : W'.ownsRow (w.heap.size + 3) 68 1 (.slice A' (BL.length + 1) c') (BL.length + 1) ((BL ++ [z]).flatMap encZ)) (hg : W.grownBy W' (Value.slice B BL.length bc).ownBlock) :
    RSt w (W'.setCell ⟨w.heap.size + 2, 13, none⟩ (.slice A' (BL.length + 1) c')) m x rs F fc FL A' c' (BL ++ [z]) M G gc GL := by
  have hl : (BL ++ [z]).length = BL.length + 1 := by simp
  have hge : ∀ j, (Value.slice B BL.length bc).ownBlock = some j → w.heap.size + 3 ≤ j := fun j hj => (h.oB.lt j hj).1
  have gs := grown_set W' (w.heap.size + 2) 13 (.slice A' (BL.length + 1) c')
  have k1 := (var_grown h.th h.oB (by decide) hg).set 13 (.slice A' (BL.length + 1) c')
  refine ⟨(h.bel.grown hg h.bel.size (fun j hj => by have := hge j hj; omega)).setCell (p := ⟨w.heap.size + 2, 13, none⟩) (by show w.heap.size ≤ w.heap.size + 2; omega) _, var_stay (var_grown h.md h.oB (by decide) hg) gs (by omega), var_stay (var_grown h.res h.oB (by decide) hg) gs (by omega), ?_, own_stay (own_two h.oB h.oF (by decide) hg) gs (by omega), by rw [hl]; exact own_stay own gs (by omega), own_stay (own_two h.oB h.oG (by decide) hg) gs (by omega)⟩
  rw [show thA (thP m FL (BL ++ [z]) M GL) (txOf m x F fc A' c' G gc) = (thA (thP m FL BL M GL) (txOf m x F fc B bc G gc)).setIfInBounds 13 (.slice A' (BL.length + 1) c') by simp [thA, txOf, thP]]
  exact k1
theorem RSt.appG (h : RSt w W m x rs F fc FL B bc BL M G gc GL) {z : (Int × Bool)} {A' : Option Addr} {c' : Nat} (own : W'.ownsRow (w.heap.size + 3) 74 2 (.slice A' (GL.length + 1) c') (GL.length + 1) ((GL ++ [z]).flatMap encG)) (hg : W.grownBy W' (Value.slice G GL.length gc).ownBlock) :
    RSt w (W'.setCell ⟨w.heap.size + 2, 15, none⟩ (.slice A' (GL.length + 1) c')) m x rs F fc FL B bc BL M A' c' (GL ++ [z]) := by
  have hl : (GL ++ [z]).length = GL.length + 1 := by simp
  have hge : ∀ j, (Value.slice G GL.length gc).ownBlock = some j → w.heap.size + 3 ≤ j := fun j hj => (h.oG.lt j hj).1
  have gs := grown_set W' (w.heap.size + 2) 15 (.slice A' (GL.length + 1) c')
  have k1 := (var_grown h.th h.oG (by decide) hg).set 15 (.slice A' (GL.length + 1) c')
  refine ⟨(h.bel.grown hg h.bel.size (fun j hj => by have := hge j hj; omega)).setCell (p := ⟨w.heap.size + 2, 15, none⟩) (by show w.heap.size ≤ w.heap.size + 2; omega) _, var_stay (var_grown h.md h.oG (by decide) hg) gs (by omega), var_stay (var_grown h.res h.oG (by decide) hg) gs (by omega), ?_, own_stay (own_two h.oG h.oF (by decide) hg) gs (by omega), own_stay (own_two h.oG h.oB (by decide) hg) gs (by omega), by rw [hl]; exact own_stay own gs (by omega)⟩
  rw [show thA (thP m FL BL M (GL ++ [z])) (txOf m x F fc B bc A' c') = (thA (thP m FL BL M GL) (txOf m x F fc B bc G gc)).setIfInBounds 15 (.slice A' (GL.length + 1) c') by simp [thA, txOf, thP]]
  exact k1
theorem RSt.incM (h : RSt w W m x rs F fc FL B bc BL M G gc GL) : RSt w (W.setCell ⟨w.heap.size + 2, 14, none⟩ (.int .i64 ((M + 1 : Nat) : Int))) m x rs F fc FL B bc BL (M + 1) G gc GL := by
  have gs := grown_set W (w.heap.size + 2) 14 (.int .i64 ((M + 1 : Nat) : Int))
  have k1 := h.th.set 14 (.int .i64 ((M + 1 : Nat) : Int))
  refine ⟨h.bel.setCell (p := ⟨w.heap.size + 2, 14, none⟩) (by show w.heap.size ≤ w.heap.size + 2; omega) _, var_stay h.md gs (by omega), var_stay h.res gs (by omega), ?_, own_stay h.oF gs (by omega), own_stay h.oB gs (by omega), own_stay h.oG gs (by omega)⟩
  rw [show thA (thP m FL BL (M + 1) GL) (txOf m x F fc B bc G gc) = (thA (thP m FL BL M GL) (txOf m x F fc B bc G gc)).setIfInBounds 14 (.int .i64 ((M + 1 : Nat) : Int)) by simp [thA, txOf, thP]]
  exact k1
end
end Go.Proofs.YtadnfekogmjieaaGreatDoor
set_option linter.unusedVariables false
set_option linter.unusedSimpArgs false
namespace Go.Proofs.YtadnfekogmjieaaGreatDoor
open Go.RowKit
open Mc (Pl Mi Mf Th Wt Im Md)
theorem put16 {W : World} {K : Nat} {t : TypeId} {a0 a1 a2 a3 a4 a5 a6 a7 a8 a9 a10 a11 a12 a13 a14 a15 : Value} (h : Var W K #[a0, a1, a2, a3, a4, a5, a6, a7, a8, a9, a10, a11, a12, a13, a14, a15] t) (b0 b1 b2 b3 b4 b5 b6 b7 b8 b9 b10 b11 b12 b13 b14 b15 : Value) :
    Var ((((((((((((((((W.setCell ⟨K, 0, none⟩ b0).setCell ⟨K, 1, none⟩ b1).setCell ⟨K, 2, none⟩ b2).setCell ⟨K, 3, none⟩ b3).setCell ⟨K, 4, none⟩ b4).setCell ⟨K, 5, none⟩ b5).setCell ⟨K, 6, none⟩ b6).setCell ⟨K, 7, none⟩ b7).setCell ⟨K, 8, none⟩ b8).setCell ⟨K, 9, none⟩ b9).setCell ⟨K, 10, none⟩ b10).setCell ⟨K, 11, none⟩ b11).setCell ⟨K, 12, none⟩ b12).setCell ⟨K, 13, none⟩ b13).setCell ⟨K, 14, none⟩ b14).setCell ⟨K, 15, none⟩ b15) K #[b0, b1, b2, b3, b4, b5, b6, b7, b8, b9, b10, b11, b12, b13, b14, b15] t ∧ W.grownBy ((((((((((((((((W.setCell ⟨K, 0, none⟩ b0).setCell ⟨K, 1, none⟩ b1).setCell ⟨K, 2, none⟩ b2).setCell ⟨K, 3, none⟩ b3).setCell ⟨K, 4, none⟩ b4).setCell ⟨K, 5, none⟩ b5).setCell ⟨K, 6, none⟩ b6).setCell ⟨K, 7, none⟩ b7).setCell ⟨K, 8, none⟩ b8).setCell ⟨K, 9, none⟩ b9).setCell ⟨K, 10, none⟩ b10).setCell ⟨K, 11, none⟩ b11).setCell ⟨K, 12, none⟩ b12).setCell ⟨K, 13, none⟩ b13).setCell ⟨K, 14, none⟩ b14).setCell ⟨K, 15, none⟩ b15) (some K) :=
  ⟨by have h7 := ((((((((((((((((h.set 0 b0).set 1 b1).set 2 b2).set 3 b3).set 4 b4).set 5 b5).set 6 b6).set 7 b7).set 8 b8).set 9 b9).set 10 b10).set 11 b11).set 12 b12).set 13 b13).set 14 b14).set 15 b15); simp only [List.setIfInBounds_toArray, List.set_cons_zero, List.set_cons_succ] at h7; exact h7, ((grown_set _ _ _ _).trans ((grown_set _ _ _ _).trans ((grown_set _ _ _ _).trans ((grown_set _ _ _ _).trans ((grown_set _ _ _ _).trans ((grown_set _ _ _ _).trans ((grown_set _ _ _ _).trans ((grown_set _ _ _ _).trans ((grown_set _ _ _ _).trans ((grown_set _ _ _ _).trans ((grown_set _ _ _ _).trans ((grown_set _ _ _ _).trans ((grown_set _ _ _ _).trans ((grown_set _ _ _ _).trans ((grown_set _ _ _ _).trans (grown_set _ _ _ _))))))))))))))))⟩
theorem info_glob : ∃ z b, (Tryz.prog.info? 74).map (fun i => (i.zero, i.size, i.bytes)) = some (some z, 2, b) ∧ z.cells.size = 2 ∧ b ≤ 1000 := ⟨.agg #[.int .i64 0, .bool false], 16, by kernel_rfl, by kernel_rfl, by decide⟩
theorem one_glob (W : World) (x : Int × Bool) : Reads (W.alloc (.cells #[.int .i64 x.1, .bool x.2] 74)) (W.alloc (.cells #[.int .i64 x.1, .bool x.2] 74)).heap.size 2 (some ⟨W.heap.size, 0, none⟩) 1 ([x].flatMap encG) := block_reads (cs := #[.int .i64 x.1, .bool x.2]) rfl (heap_alloc_new W _)
def REx (w W : World) (m : Md) (x : MX) (rs : Array Value) (t : Th) : Prop := t.types = m.types ∧ t.elems = m.elems ∧ t.datas = m.datas ∧ ∃ F fc B bc G gc, RSt w W m x rs F fc t.funcs B bc t.tables t.mems G gc t.globals
namespace Mc
theorem impF_cons (a : Im) (l : List Im) : impF (l ++ [a]) = impF l ++ (if a.kind = 0 then [a.func] else []) := by
  unfold impF; rw [List.filter_append, List.map_append]; by_cases h : a.kind = 0 <;> simp [h]
theorem impT_cons (a : Im) (l : List Im) : impT (l ++ [a]) = impT l ++ (if a.kind = 1 then [a.elem] else []) := by
  unfold impT; rw [List.filter_append, List.map_append]; by_cases h : a.kind = 1 <;> simp [h]
theorem impM_cons (a : Im) (l : List Im) : impM (l ++ [a]) = impM l + (if a.kind = 2 then 1 else 0) := by
  unfold impM; rw [List.filter_append]; by_cases h : a.kind = 2 <;> simp [h]
theorem impG_cons (a : Im) (l : List Im) : impG (l ++ [a]) = impG l ++ (if a.kind = 3 then [(a.gtyp, a.gmut)] else []) := by
  unfold impG; rw [List.filter_append, List.map_append]; by_cases h : a.kind = 3 <;> simp [h]
theorem impF_len (l : List Im) : (impF l).length ≤ l.length := by unfold impF; rw [List.length_map]; exact List.length_filter_le _ _
theorem impT_len (l : List Im) : (impT l).length ≤ l.length := by unfold impT; rw [List.length_map]; exact List.length_filter_le _ _
theorem impM_len (l : List Im) : impM l ≤ l.length := List.length_filter_le _ _
theorem impG_len (l : List Im) : (impG l).length ≤ l.length := by unfold impG; rw [List.length_map]; exact List.length_filter_le _ _
def th1 (m : Md) (i : Nat) : Th := ⟨m.types, impF (m.imps.take i), impT (m.imps.take i), m.mems + impM (m.imps.take i), impG (m.imps.take i), m.elems, m.datas⟩
def th2 (m : Md) (i : Nat) : Th := ⟨m.types, impF m.imps ++ m.funcs.take i, impT m.imps, m.mems + impM m.imps, impG m.imps, m.elems, m.datas⟩
def th3 (m : Md) (i : Nat) : Th := ⟨m.types, impF m.imps ++ m.funcs, impT m.imps ++ m.tables.take i, m.mems + impM m.imps, impG m.imps, m.elems, m.datas⟩
def th4 (m : Md) (i : Nat) : Th := ⟨m.types, impF m.imps ++ m.funcs, impT m.imps ++ m.tables, m.mems + impM m.imps, impG m.imps ++ m.globals.take i, m.elems, m.datas⟩
structure Md.Few (m : Md) : Prop where
  ty : m.types.length ≤ 100000
  im : m.imps.length ≤ 100000
  fn : m.funcs.length ≤ 100000
  tb : m.tables.length ≤ 100000
  mm : m.mems ≤ 100000
  gl : m.globals.length ≤ 100000
  el : m.elems ≤ 100000
  da : m.datas ≤ 100000
  pl : ∀ f ∈ m.types, f.1.length ≤ 17592186044416 ∧ f.2.length ≤ 17592186044416
theorem thOf_few {m : Md} (h : m.Few) : (thOf m).Few := by
  have h1 := impF_len m.imps
  have h2 := impT_len m.imps
  have h3 := impM_len m.imps
  have h4 := impG_len m.imps
  obtain ⟨k0, k1, k2, k3, k4, k5, k6, k7, k8⟩ := h
  refine ⟨?_, ?_, ?_, ?_, ?_, ?_, ?_, k8⟩ <;> simp only [thOf, List.length_append] <;> omega
end Mc
namespace Mc
section
variable {m : Md} {i : Nat} {y : Im}
theorem th1_F (h : m.imps.take i ++ [y] = m.imps.take (i + 1)) (hk : y.kind = 0) : th1 m (i + 1) = ⟨m.types, (th1 m i).funcs ++ [y.func], (th1 m i).tables, (th1 m i).mems, (th1 m i).globals, m.elems, m.datas⟩ := by
  unfold th1; rw [← h, impF_cons, impT_cons, impM_cons, impG_cons]; simp [hk]
theorem th1_B (h : m.imps.take i ++ [y] = m.imps.take (i + 1)) (hk : y.kind = 1) : th1 m (i + 1) = ⟨m.types, (th1 m i).funcs, (th1 m i).tables ++ [y.elem], (th1 m i).mems, (th1 m i).globals, m.elems, m.datas⟩ := by
  unfold th1; rw [← h, impF_cons, impT_cons, impM_cons, impG_cons]; simp [hk]
theorem th1_M (h : m.imps.take i ++ [y] = m.imps.take (i + 1)) (hk : y.kind = 2) : th1 m (i + 1) = ⟨m.types, (th1 m i).funcs, (th1 m i).tables, (th1 m i).mems + 1, (th1 m i).globals, m.elems, m.datas⟩ := by
  unfold th1; rw [← h, impF_cons, impT_cons, impM_cons, impG_cons]; simp [hk]; omega
theorem th1_G (h : m.imps.take i ++ [y] = m.imps.take (i + 1)) (hk : y.kind = 3) : th1 m (i + 1) = ⟨m.types, (th1 m i).funcs, (th1 m i).tables, (th1 m i).mems, (th1 m i).globals ++ [(y.gtyp, y.gmut)], m.elems, m.datas⟩ := by
  unfold th1; rw [← h, impF_cons, impT_cons, impM_cons, impG_cons]; simp [hk]
theorem th1_N (h : m.imps.take i ++ [y] = m.imps.take (i + 1)) (h0 : ¬ y.kind = 0) (h1 : ¬ y.kind = 1) (h2 : ¬ y.kind = 2) (h3 : ¬ y.kind = 3) : th1 m (i + 1) = th1 m i := by
  unfold th1; rw [← h, impF_cons, impT_cons, impM_cons, impG_cons]; simp [h0, h1, h2, h3]
theorem th2_F {y : Int} (h : m.funcs.take i ++ [y] = m.funcs.take (i + 1)) : th2 m (i + 1) = ⟨m.types, (th2 m i).funcs ++ [y], (th2 m i).tables, (th2 m i).mems, (th2 m i).globals, m.elems, m.datas⟩ := by
  unfold th2; rw [← h]; simp
theorem th3_B {y : Int} (h : m.tables.take i ++ [y] = m.tables.take (i + 1)) : th3 m (i + 1) = ⟨m.types, (th3 m i).funcs, (th3 m i).tables ++ [y], (th3 m i).mems, (th3 m i).globals, m.elems, m.datas⟩ := by
  unfold th3; rw [← h]; simp
theorem th4_G {y : Int × Bool} (h : m.globals.take i ++ [y] = m.globals.take (i + 1)) : th4 m (i + 1) = ⟨m.types, (th4 m i).funcs, (th4 m i).tables, (th4 m i).mems, (th4 m i).globals ++ [y], m.elems, m.datas⟩ := by
  unfold th4; rw [← h]; simp
theorem th1_end (m : Md) : th1 m m.imps.length = th2 m 0 := by unfold th1 th2; simp
theorem th2_end (m : Md) : th2 m m.funcs.length = th3 m 0 := by unfold th2 th3; simp
theorem th3_end (m : Md) : th3 m m.tables.length = th4 m 0 := by unfold th3 th4; simp
theorem th4_end (m : Md) : th4 m m.globals.length = thOf m := by unfold th4 thOf; simp
def Th.Low (t : Th) : Prop := t.funcs.length ≤ 200000 ∧ t.tables.length ≤ 200000 ∧ t.mems ≤ 200000 ∧ t.globals.length ≤ 200000
theorem th1_low (h : m.Few) (i : Nat) : (th1 m i).Low := by
  have h1 := impF_len (m.imps.take i)
  have h2 := impT_len (m.imps.take i)
  have h3 := impM_len (m.imps.take i)
  have h4 := impG_len (m.imps.take i)
  have h5 : (m.imps.take i).length ≤ m.imps.length := List.length_take_le' _ _
  obtain ⟨k0, k1, k2, k3, k4, k5, k6, k7, k8⟩ := h
  refine ⟨?_, ?_, ?_, ?_⟩ <;> simp only [th1] <;> omega
theorem thx_low (h : m.Few) (a b c : Nat) : impF m.imps |>.length |> fun z => z + (m.funcs.take a).length ≤ 200000 ∧ (impT m.imps).length + (m.tables.take b).length ≤ 200000 ∧ m.mems + impM m.imps ≤ 200000 ∧ (impG m.imps).length + (m.globals.take c).length ≤ 200000 := by
  have h1 := impF_len m.imps
  have h2 := impT_len m.imps
  have h3 := impM_len m.imps
  have h4 := impG_len m.imps
  have h5 : (m.funcs.take a).length ≤ m.funcs.length := List.length_take_le' _ _
  have h6 : (m.tables.take b).length ≤ m.tables.length := List.length_take_le' _ _
  have h7 : (m.globals.take c).length ≤ m.globals.length := List.length_take_le' _ _
  obtain ⟨k0, k1, k2, k3, k4, k5, k6, k7, k8⟩ := h
  dsimp only
  omega
theorem th2_low (h : m.Few) (i : Nat) : (th2 m i).Low := by
  have := thx_low h i 0 0
  simp only [List.take_zero, List.length_nil, Nat.add_zero] at this
  refine ⟨?_, ?_, ?_, ?_⟩ <;> simp only [th2, List.length_append] <;> omega
theorem th3_low (h : m.Few) (i : Nat) : (th3 m i).Low := by
  have := thx_low h m.funcs.length i 0
  simp only [List.take_length, List.take_zero, List.length_nil, Nat.add_zero] at this
  refine ⟨?_, ?_, ?_, ?_⟩ <;> simp only [th3, List.length_append] <;> omega
theorem th4_low (h : m.Few) (i : Nat) : (th4 m i).Low := by
  have := thx_low h m.funcs.length m.tables.length i
  simp only [List.take_length] at this
  refine ⟨?_, ?_, ?_, ?_⟩ <;> simp only [th4, List.length_append] <;> omega
end
end Mc
structure MX.One (x : MX) : Prop where
  h6 : ∃ A n c, x.v6 = .slice A n c
  h7 : ∃ b, x.v7 = .bool b
  h8 : ∃ z, x.v8 = .int .i64 z
  h11 : ∃ A n c, x.v11 = .slice A n c
theorem mdA_cells {W : World} {K : Nat} {T : TypeId} {m : Md} {x : MX} (h : Var W K (mdA m x) T) :
    (W.cell? ⟨K, 0, none⟩ = some (.slice x.TA m.types.length x.tc) ∧ W.cell? ⟨K, 1, none⟩ = some (.slice x.IA m.imps.length x.ic) ∧ W.cell? ⟨K, 2, none⟩ = some (.slice x.FA m.funcs.length x.fc) ∧ W.cell? ⟨K, 3, none⟩ = some (.slice x.BA m.tables.length x.bc) ∧ W.cell? ⟨K, 4, none⟩ = some (.slice x.MA m.mems x.mc) ∧ W.cell? ⟨K, 5, none⟩ = some (.slice x.GA m.globals.length x.gc)) ∧
    (W.cell? ⟨K, 6, none⟩ = some x.v6 ∧ W.cell? ⟨K, 7, none⟩ = some x.v7 ∧ W.cell? ⟨K, 8, none⟩ = some x.v8 ∧ W.cell? ⟨K, 9, none⟩ = some (.slice x.EA m.elems x.ec) ∧ W.cell? ⟨K, 10, none⟩ = some (.slice x.DA m.datas x.dc) ∧ W.cell? ⟨K, 11, none⟩ = some x.v11) :=
  ⟨⟨h.cells 0, h.cells 1, h.cells 2, h.cells 3, h.cells 4, h.cells 5⟩, h.cells 6, h.cells 7, h.cells 8, h.cells 9, h.cells 10, h.cells 11⟩
def MdOut (S : Nat → Prop) (N : Nat) (m : Md) (x : MX) (e : Ending) (w' : World) : Prop :=
  ∃ F fc B bc G gc, e = .returned (.agg (thA (Mc.thOf m) (txOf m x F fc B bc G gc))) ∧ ThRd (fun g => S g ∨ N ≤ g) w' (Mc.thOf m) (txOf m x F fc B bc G gc)
abbrev zTh : Array Value := #[.slice none 0 0, .slice none 0 0, .slice none 0 0, .slice none 0 0, .slice none 0 0, .slice none 0 0, .slice none 0 0, .bool false, .int .i64 0, .slice none 0 0, .slice none 0 0, .slice none 0 0, .slice none 0 0, .slice none 0 0, .int .i64 0, .slice none 0 0]
theorem rFin {S : Nat → Prop} {w W X : World} {m : Md} {x : MX} {rs : Array Value} {F : Option Addr} {fc : Nat} {FL : List Int} {B : Option Addr} {bc : Nat} {BL : List Int} {M : Nat} {G : Option Addr} {gc : Nat} {GL : List (Int × Bool)}
    (h : RSt w W m x rs F fc FL B bc BL M G gc GL) (hm : MdRd S w m x) (hX : W.grownBy X (some (w.heap.size + 1))) : Below w.heap.size w X ∧ ThRd (fun g => S g ∨ w.heap.size ≤ g) X (thP m FL BL M GL) (txOf m x F fc B bc G gc) := by
  have hb := below_grown h.bel hX h.bel.size (by omega)
  refine ⟨hb, ⟨RdT.mono (hm.on hb).ty (fun g _ hg => .inl hg) (fun _ _ _ h => h), ?_, ?_, ?_⟩⟩
  · exact (own_rdz (own_stay h.oF hX (by omega))).mono (fun g _ hg => .inr (by omega))
  · exact (own_rdz (own_stay h.oB hX (by omega))).mono (fun g _ hg => .inr (by omega))
  · intro hl
    obtain ⟨g, o, e, hb, hc⟩ := own_rds encG_len (by omega) (own_stay h.oG hX (by omega)) hl
    refine ⟨g, o, e, .inr (by have := (h.oG.lt g (by rw [e]; rfl)).1; omega), hb, fun i hi => ⟨?_, ?_⟩⟩
    · exact hc i hi 0 _ rfl
    · exact hc i hi 1 _ rfl
set_option maxHeartbeats 16000000 in
set_option maxRecDepth 100000 in
theorem mread_any (m : Md) (hf : m.Few) (x : MX) (ho : x.One) (S : Nat → Prop) (w : World) (hm : MdRd S w m x) :
    Calls Tryz.prog 26 #[.agg (mdA m x)] w fun e w' => MdOut S w.heap.size m x e w' ∧ Below w.heap.size w w' := by
  obtain ⟨i0, hi0, hz0, hz1, hz2⟩ := info_parts info_int
  obtain ⟨j0, hj0, kz0, kz1, kz2⟩ := info_parts info_val
  obtain ⟨zG, bG, hinfo, hzs, hbb⟩ := info_glob
  obtain ⟨l0, hl0, lz0, lz1, lz2⟩ := info_parts hinfo
  have ht0 : thP m [] [] m.mems [] = Mc.th1 m 0 := by simp [thP, Mc.th1, Mc.impF, Mc.impT, Mc.impG, Mc.impM]
  go_enter Tryz.func26, Tryz.ntmps26
  go_upto_region 1 with fail
  refine at_code (F := fun W => Hid (Below w.heap.size w W) ∧ Hid (Var W w.heap.size (mdA m x) 33) ∧ Hid (Var W (w.heap.size + 1) zTh 97) ∧ W.heap.size = w.heap.size + 2) ⟨Lib.hid (((Below.refl w.heap.size w).alloc (Nat.le_refl _) _).alloc (by simp) _), Lib.hid ((Var.new w _ _).alloc _), Lib.hid (by have h := Var.new (w.alloc (.cells (mdA m x) 33)) zTh 97 ; simpa using h), by simp⟩ ?_
  rintro W ⟨HB, V0, V1, hsz⟩
  obtain ⟨⟨g0, g1, g2, g3, g4, g5⟩, g6, g7, g8, g9, g10, g11⟩ := mdA_cells V0.out
  obtain ⟨⟨A6, n6, c6, e6⟩, ⟨b7, e7⟩, ⟨z8, e8⟩, A11, n11, c11, e11⟩ := ho
  rw [e6] at g6
  rw [e7] at g7
  rw [e8] at g8
  rw [e11] at g11
  go_upto_region 2 with fail
  have VN := Var.new W #[.slice x.TA m.types.length x.tc, .slice x.IA m.imps.length x.ic, .slice x.FA m.funcs.length x.fc, .slice x.BA m.tables.length x.bc, .slice x.MA m.mems x.mc, .slice x.GA m.globals.length x.gc, .slice A6 n6 c6, .bool b7, .int .i64 z8, .slice x.EA m.elems x.ec, .slice x.DA m.datas x.dc, .slice A11 n11 c11, .slice none 0 0, .slice none 0 0, .int .i64 (m.mems : Int), .slice none 0 0] 97
  refine at_code (F := fun W => Hid (RSt w W m x zTh none 0 [] none 0 [] m.mems none 0 [])) (Lib.hid ⟨HB.out.alloc HB.out.size _, V0.out.alloc _, V1.out.alloc _, by (rw [hsz, ← e6, ← e7, ← e8, ← e11] at VN; rw [← e6, ← e7, ← e8, ← e11]; exact VN), World.ownsRow_nil _ _ _ _, World.ownsRow_nil _ _ _ _, World.ownsRow_nil _ _ _ _⟩) ?_
  clear HB V0 V1 g0 g1 g2 g3 g4 g5 g6 g7 g8 g9 g10 g11 hsz W VN
  intro W ST
  have HR0 : Hid (REx w W m x zTh (Mc.th1 m 0)) := Lib.hid ⟨rfl, rfl, rfl, none, 0, none, 0, none, 0, by simpa [Mc.th1, Mc.impF, Mc.impT, Mc.impG, Mc.impM] using ST.out⟩
  obtain ⟨⟨g0, g1, g2, g3, g4, g5⟩, -⟩ := mdA_cells ST.out.md
  have hM := Lib.hid hm
  clear ST hm ht0
  have k1 := hf.im
  have k2 := hf.fn
  have k3 := hf.tb
  have k4 := hf.gl
  have q1 := fun i => Mc.impF_len (m.imps.take i)
  have q2 := fun i => Mc.impT_len (m.imps.take i)
  have q4 := fun i => Mc.impG_len (m.imps.take i)
  have qf := Mc.impF_len m.imps
  have qt := Mc.impT_len m.imps
  have qg := Mc.impG_len m.imps
  go_wp2_with fail
  go_loopw [20] (fun iv wr => ∃ i : Nat, iv = .int .i64 (i : Int) ∧ i ≤ m.imps.length ∧ Hid (REx w wr m x zTh (Mc.th1 m i))) (fun iv _ => m.imps.length - (intOf iv).toNat)
  case atStart => exact ⟨0, rfl, by omega, HR0⟩
  case round =>
    clear HR0 g0 g1 g2 g3 g4 g5
    obtain ⟨i, rfl, hi, HR0⟩ := hrel
    have HS := HR0.out
    obtain ⟨-, -, -, F, fc, B, bc, G, gc, ST⟩ := HS
    by_cases hia : i < m.imps.length
    · have x0 : (i : Int) < (m.imps.length : Int) := by omega
      have x1 : (0 : Int) ≤ (i : Int) := by omega
      obtain ⟨g, o, hA, -, hgl, hat⟩ := (hM.out.on ST.bel).im.get hia
      have htk : m.imps.take i ++ [m.imps[i]] = m.imps.take (i + 1) := (List.take_succ_eq_append_getElem hia).symm
      obtain ⟨y, hy⟩ : ∃ y, m.imps[i] = y := ⟨_, rfl⟩
      rw [hy] at hat htk
      rw [hA]
      clear hy
      obtain ⟨u0, u1, l0_, l1_, l2_, n0_, n1_, n2_, hat⟩ := hat
      have f0 := hat 0 _ rfl
      have f1 := hat 1 _ rfl
      have f2 := hat 2 _ rfl
      have f3 := hat 3 _ rfl
      have f4 := hat 4 _ rfl
      have f5 := hat 5 _ rfl
      have f6 := hat 6 _ rfl
      have f7 := hat 7 _ rfl
      have f8 := hat 8 _ rfl
      have f9 := hat 9 _ rfl
      have f10 := hat 10 _ rfl
      have f11 := hat 11 _ rfl
      have f12 := hat 12 _ rfl
      clear hat
      simp only [Nat.add_zero] at f0
      go_upto_region 5 with fail
      refine at_code (F := fun W => Hid (RSt w W m x zTh F fc (Mc.th1 m i).funcs B bc (Mc.th1 m i).tables (Mc.th1 m i).mems G gc (Mc.th1 m i).globals) ∧ Hid (Var W wr.heap.size #[.string u0, .string u1, .int .i64 y.kind, .int .i64 y.func, .int .i64 y.elem, .int .i64 l0_, .int .i64 l1_, .bool l2_, .int .i64 n0_, .int .i64 n1_, .bool n2_, .int .i64 y.gtyp, .bool y.gmut] 76)) ⟨Lib.hid (ST.below ((Below.refl _ _).alloc (Nat.le_refl _) _)), Lib.hid (Var.new _ _ _)⟩ ?_
      clear f0 f1 f2 f3 f4 f5 f6 f7 f8 f9 f10 f11 f12 ST
      obtain ⟨K5, hK5⟩ : ∃ K, wr.heap.size = K := ⟨_, rfl⟩
      simp only [hK5]
      clear hK5
      rintro W4 ⟨S4, HVX⟩
      obtain ⟨yk, yf, ye, yg, ym⟩ := y
      dsimp only at HVX ⊢
      have LW := Mc.th1_low hf i
      have f2 := HVX.out.cells 2
      have f3 := HVX.out.cells 3
      have f4 := HVX.out.cells 4
      have f11 := HVX.out.cells 11
      have f12 := HVX.out.cells 12
      obtain ⟨⟨t0, t1, t2, t3, t4, t5, t6, t7⟩, t8, t9, t10, t11, t12, t13, t14, t15⟩ := thA_cells S4.out.th
      have z12 := S4.out.th.froz 12
      have z13 := S4.out.th.froz 13
      have z14 := S4.out.th.froz 14
      have z15 := S4.out.th.froz 15
      have hlt := S4.out.th.lt
      clear t0 t1 t2 t3 t4 t5 t6 t7 t8 t9 t10 t11
      dsimp only [thP, txOf] at t12 t13 t14 t15
      by_cases c0 : yk = 0
      · subst c0
        have HN : Mc.th1 m (i + 1) = ⟨m.types, (Mc.th1 m i).funcs ++ [yf], (Mc.th1 m i).tables, (Mc.th1 m i).mems, (Mc.th1 m i).globals, m.elems, m.datas⟩ := Mc.th1_F htk rfl
        clear htk HVX
        go_wp2_with (at_builtin; have haa := (Below.refl W4.heap.size W4).alloc (Nat.le_refl _) (.cells #[.int .i64 yf] 3); have SA := S4.out.below haa; refine app_rs Tryz.underlying58 hi0 hz0 hz1 hz2 (by rfl) (by omega) encZ_len encZ_one _ rfl (.tmp 29) (.tmp 32) rfl (w.heap.size + 3) (.slice F (Mc.th1 m i).funcs.length fc) (Mc.th1 m i).funcs.length (Mc.th1 m i).funcs (by rfl) SA.oF [yf] 1 1 _ rfl (by rfl) (one_int W4 yf) (by have := LW.1; have := LW.2.1; have := LW.2.2.2; omega) (by decide) (by have := SA.bel.size; have := SA.th.lt; omega) ?_; intro A' c' w6 own6 hg6; have POK := SA.appF own6 hg6; have V6 := var_grown SA.th SA.oF (by decide) hg6; have n1 := V6.cells 12; have n2 := V6.froz 12; have n3 := V6.lt; clear SA haa own6 hg6 V6)
        go_roundw
        case rel => exact ⟨i + 1, by go_num, by omega, Lib.hid (by rw [HN]; exact ⟨rfl, rfl, rfl, A', c', B, bc, G, gc, POK⟩)⟩
        case measure => simp [intOf]; omega
      by_cases c1 : yk = 1
      · subst c1
        have HN : Mc.th1 m (i + 1) = ⟨m.types, (Mc.th1 m i).funcs, (Mc.th1 m i).tables ++ [ye], (Mc.th1 m i).mems, (Mc.th1 m i).globals, m.elems, m.datas⟩ := Mc.th1_B htk rfl
        clear htk HVX c0
        go_wp2_with (at_builtin; have haa := (Below.refl W4.heap.size W4).alloc (Nat.le_refl _) (.cells #[.int .i64 ye] 68); have SA := S4.out.below haa; refine app_rs Tryz.underlying34 hj0 kz0 kz1 kz2 (by rfl) (by omega) encZ_len encZ_one _ rfl (.tmp 38) (.tmp 42) rfl (w.heap.size + 3) (.slice B (Mc.th1 m i).tables.length bc) (Mc.th1 m i).tables.length (Mc.th1 m i).tables (by rfl) SA.oB [ye] 1 1 _ rfl (by rfl) (one_val W4 ye) (by have := LW.1; have := LW.2.1; have := LW.2.2.2; omega) (by decide) (by have := SA.bel.size; have := SA.th.lt; omega) ?_; intro A' c' w6 own6 hg6; have POK := SA.appB own6 hg6; have V6 := var_grown SA.th SA.oB (by decide) hg6; have n1 := V6.cells 13; have n2 := V6.froz 13; have n3 := V6.lt; clear SA haa own6 hg6 V6)
        go_roundw
        case rel => exact ⟨i + 1, by go_num, by omega, Lib.hid (by rw [HN]; exact ⟨rfl, rfl, rfl, F, fc, A', c', G, gc, POK⟩)⟩
        case measure => simp [intOf]; omega
      by_cases c2 : yk = 2
      · subst c2
        have HN : Mc.th1 m (i + 1) = ⟨m.types, (Mc.th1 m i).funcs, (Mc.th1 m i).tables, (Mc.th1 m i).mems + 1, (Mc.th1 m i).globals, m.elems, m.datas⟩ := Mc.th1_M htk rfl
        clear htk HVX c0
        have hwm : IntKind.i64.wrap (((Mc.th1 m i).mems : Int) + 1) = ((Mc.th1 m i).mems : Int) + 1 := by rw [IntKind.wrap_i64]; have := LW.2.2.1; omega
        have POK := S4.out.incM
        rw [Int.natCast_add, Int.natCast_one] at POK
        go_wp2_with fail
        go_roundw
        case rel => exact ⟨i + 1, by go_num, by omega, Lib.hid (by rw [HN]; exact ⟨rfl, rfl, rfl, F, fc, B, bc, G, gc, POK⟩)⟩
        case measure => simp [intOf]; omega
      by_cases c3 : yk = 3
      · subst c3
        have HN : Mc.th1 m (i + 1) = ⟨m.types, (Mc.th1 m i).funcs, (Mc.th1 m i).tables, (Mc.th1 m i).mems, (Mc.th1 m i).globals ++ [(yg, ym)], m.elems, m.datas⟩ := Mc.th1_G htk rfl
        clear htk HVX c0
        go_wp2_with (at_builtin; have haa := (Below.refl W4.heap.size W4).alloc (Nat.le_refl _) (.cells #[.int .i64 yg, .bool ym] 74); have SA := S4.out.below haa; refine app_rs Tryz.underlying95 hl0 lz0 lz1 lz2 hzs (by omega) encG_len encG_one _ rfl (.tmp 54) (.tmp 57) rfl (w.heap.size + 3) (.slice G (Mc.th1 m i).globals.length gc) (Mc.th1 m i).globals.length (Mc.th1 m i).globals (by rfl) SA.oG [(yg, ym)] 1 1 _ rfl (by rfl) (one_glob W4 (yg, ym)) (by have := LW.1; have := LW.2.1; have := LW.2.2.2; omega) hbb (by have := SA.bel.size; have := SA.th.lt; omega) ?_; intro A' c' w6 own6 hg6; have POK := SA.appG own6 hg6; have V6 := var_grown SA.th SA.oG (by decide) hg6; have n1 := V6.cells 15; have n2 := V6.froz 15; have n3 := V6.lt; clear SA haa own6 hg6 V6)
        go_roundw
        case rel => exact ⟨i + 1, by go_num, by omega, Lib.hid (by rw [HN]; exact ⟨rfl, rfl, rfl, F, fc, B, bc, A', c', POK⟩)⟩
        case measure => simp [intOf]; omega
      have HN : Mc.th1 m (i + 1) = Mc.th1 m i := Mc.th1_N htk c0 c1 c2 c3
      have POK := S4.out
      clear htk HVX
      go_wp2_with fail
      go_roundw
      case rel => exact ⟨i + 1, by go_num, by omega, Lib.hid (by rw [HN]; exact ⟨rfl, rfl, rfl, F, fc, B, bc, G, gc, POK⟩)⟩
      case measure => simp [intOf]; omega
    · obtain rfl : i = m.imps.length := by omega
      have x2 : ¬ (m.imps.length : Int) < (m.imps.length : Int) := by omega
      obtain ⟨⟨g0, g1, g2, g3, g4, g5⟩, -⟩ := mdA_cells ST.md
      rw [Mc.th1_end] at HR0
      clear ST
      go_wp2_with fail
      go_loopw [64] (fun iv wr => ∃ i : Nat, iv = .int .i64 (i : Int) ∧ i ≤ m.funcs.length ∧ Hid (REx w wr m x zTh (Mc.th2 m i))) (fun iv _ => m.funcs.length - (intOf iv).toNat)
      case atStart => exact ⟨0, rfl, by omega, HR0⟩
      case round =>
        clear HR0 g0 g1 g2 g3 g4 g5
        obtain ⟨i, rfl, hi, HR0⟩ := hrel
        have HS := HR0.out
        obtain ⟨-, -, -, F, fc, B, bc, G, gc, ST⟩ := HS
        by_cases hia : i < m.funcs.length
        · have x0 : (i : Int) < (m.funcs.length : Int) := by omega
          have x1 : (0 : Int) ≤ (i : Int) := by omega
          obtain ⟨g, o, hA, -, hgl, hat⟩ := (hM.out.on ST.bel).fn.get hia
          have htk : m.funcs.take i ++ [m.funcs[i]] = m.funcs.take (i + 1) := (List.take_succ_eq_append_getElem hia).symm
          obtain ⟨y, hy⟩ : ∃ y, m.funcs[i] = y := ⟨_, rfl⟩
          rw [hy] at hat htk
          rw [hA]
          clear hy
          obtain ⟨A1, n1, c1, B1, n2, c2, f0, f1, f2⟩ := hat
          go_upto_region 18 with fail
          refine at_code (F := fun W => Hid (RSt w W m x zTh F fc (Mc.th2 m i).funcs B bc (Mc.th2 m i).tables (Mc.th2 m i).mems G gc (Mc.th2 m i).globals) ∧ Hid (Var W wr.heap.size #[.int .i64 y, .slice A1 n1 c1, .slice B1 n2 c2] 79)) ⟨Lib.hid (ST.below ((Below.refl _ _).alloc (Nat.le_refl _) _)), Lib.hid (Var.new _ _ _)⟩ ?_
          clear f0 f1 f2 ST
          obtain ⟨K5, hK5⟩ : ∃ K, wr.heap.size = K := ⟨_, rfl⟩
          simp only [hK5]
          clear hK5
          rintro W4 ⟨S4, HVX⟩
          have LW := Mc.th2_low hf i
          have f0 := HVX.out.cells 0
          obtain ⟨⟨t0, t1, t2, t3, t4, t5, t6, t7⟩, t8, t9, t10, t11, t12, t13, t14, t15⟩ := thA_cells S4.out.th
          have z12 := S4.out.th.froz 12
          have hlt := S4.out.th.lt
          clear t0 t1 t2 t3 t4 t5 t6 t7 t8 t9 t10 t11
          dsimp only [thP, txOf] at t12 t13 t14 t15
          have HN : Mc.th2 m (i + 1) = ⟨m.types, (Mc.th2 m i).funcs ++ [y], (Mc.th2 m i).tables, (Mc.th2 m i).mems, (Mc.th2 m i).globals, m.elems, m.datas⟩ := Mc.th2_F htk
          clear htk HVX
          go_wp2_with (at_builtin; have haa := (Below.refl W4.heap.size W4).alloc (Nat.le_refl _) (.cells #[.int .i64 y] 3); have SA := S4.out.below haa; refine app_rs Tryz.underlying58 hi0 hz0 hz1 hz2 (by rfl) (by omega) encZ_len encZ_one _ rfl (.tmp 69) (.tmp 72) rfl (w.heap.size + 3) (.slice F (Mc.th2 m i).funcs.length fc) (Mc.th2 m i).funcs.length (Mc.th2 m i).funcs (by rfl) SA.oF [y] 1 1 _ rfl (by rfl) (one_int W4 y) (by have := LW.1; have := LW.2.1; have := LW.2.2.2; omega) (by decide) (by have := SA.bel.size; have := SA.th.lt; omega) ?_; intro A' c' w6 own6 hg6; have POK := SA.appF own6 hg6; have V6 := var_grown SA.th SA.oF (by decide) hg6; have n1 := V6.cells 12; have n2 := V6.froz 12; have n3 := V6.lt; clear SA haa own6 hg6 V6)
          go_roundw
          case rel => exact ⟨i + 1, by go_num, by omega, Lib.hid (by rw [HN]; exact ⟨rfl, rfl, rfl, A', c', B, bc, G, gc, POK⟩)⟩
          case measure => simp [intOf]; omega
        · obtain rfl : i = m.funcs.length := by omega
          have x2 : ¬ (m.funcs.length : Int) < (m.funcs.length : Int) := by omega
          obtain ⟨⟨g0, g1, g2, g3, g4, g5⟩, -⟩ := mdA_cells ST.md
          rw [Mc.th2_end] at HR0
          clear ST
          go_wp2_with fail
          go_loopw [79] (fun iv wr => ∃ i : Nat, iv = .int .i64 (i : Int) ∧ i ≤ m.tables.length ∧ Hid (REx w wr m x zTh (Mc.th3 m i))) (fun iv _ => m.tables.length - (intOf iv).toNat)
          case atStart => exact ⟨0, rfl, by omega, HR0⟩
          case round =>
            clear HR0 g0 g1 g2 g3 g4 g5
            obtain ⟨i, rfl, hi, HR0⟩ := hrel
            have HS := HR0.out
            obtain ⟨-, -, -, F, fc, B, bc, G, gc, ST⟩ := HS
            by_cases hia : i < m.tables.length
            · have x0 : (i : Int) < (m.tables.length : Int) := by omega
              have x1 : (0 : Int) ≤ (i : Int) := by omega
              obtain ⟨g, o, hA, -, hgl, hat⟩ := (hM.out.on ST.bel).tb.get hia
              have htk : m.tables.take i ++ [m.tables[i]] = m.tables.take (i + 1) := (List.take_succ_eq_append_getElem hia).symm
              obtain ⟨y, hy⟩ : ∃ y, m.tables[i] = y := ⟨_, rfl⟩
              rw [hy] at hat htk
              rw [hA]
              clear hy
              obtain ⟨u1, u2, u3, f0, f1, f2, f3⟩ := hat
              go_upto_region 23 with fail
              refine at_code (F := fun W => Hid (RSt w W m x zTh F fc (Mc.th3 m i).funcs B bc (Mc.th3 m i).tables (Mc.th3 m i).mems G gc (Mc.th3 m i).globals) ∧ Hid (Var W wr.heap.size #[.int .i64 y, .int .i64 u1, .int .i64 u2, .bool u3] 72)) ⟨Lib.hid (ST.below ((Below.refl _ _).alloc (Nat.le_refl _) _)), Lib.hid (Var.new _ _ _)⟩ ?_
              clear f0 f1 f2 f3 ST
              obtain ⟨K5, hK5⟩ : ∃ K, wr.heap.size = K := ⟨_, rfl⟩
              simp only [hK5]
              clear hK5
              rintro W4 ⟨S4, HVX⟩
              have LW := Mc.th3_low hf i
              have f0 := HVX.out.cells 0
              obtain ⟨⟨t0, t1, t2, t3, t4, t5, t6, t7⟩, t8, t9, t10, t11, t12, t13, t14, t15⟩ := thA_cells S4.out.th
              have z13 := S4.out.th.froz 13
              have hlt := S4.out.th.lt
              clear t0 t1 t2 t3 t4 t5 t6 t7 t8 t9 t10 t11
              dsimp only [thP, txOf] at t12 t13 t14 t15
              have HN : Mc.th3 m (i + 1) = ⟨m.types, (Mc.th3 m i).funcs, (Mc.th3 m i).tables ++ [y], (Mc.th3 m i).mems, (Mc.th3 m i).globals, m.elems, m.datas⟩ := Mc.th3_B htk
              clear htk HVX
              go_wp2_with (at_builtin; have haa := (Below.refl W4.heap.size W4).alloc (Nat.le_refl _) (.cells #[.int .i64 y] 68); have SA := S4.out.below haa; refine app_rs Tryz.underlying34 hj0 kz0 kz1 kz2 (by rfl) (by omega) encZ_len encZ_one _ rfl (.tmp 84) (.tmp 87) rfl (w.heap.size + 3) (.slice B (Mc.th3 m i).tables.length bc) (Mc.th3 m i).tables.length (Mc.th3 m i).tables (by rfl) SA.oB [y] 1 1 _ rfl (by rfl) (one_val W4 y) (by have := LW.1; have := LW.2.1; have := LW.2.2.2; omega) (by decide) (by have := SA.bel.size; have := SA.th.lt; omega) ?_; intro A' c' w6 own6 hg6; have POK := SA.appB own6 hg6; have V6 := var_grown SA.th SA.oB (by decide) hg6; have n1 := V6.cells 13; have n2 := V6.froz 13; have n3 := V6.lt; clear SA haa own6 hg6 V6)
              go_roundw
              case rel => exact ⟨i + 1, by go_num, by omega, Lib.hid (by rw [HN]; exact ⟨rfl, rfl, rfl, F, fc, A', c', G, gc, POK⟩)⟩
              case measure => simp [intOf]; omega
            · obtain rfl : i = m.tables.length := by omega
              have x2 : ¬ (m.tables.length : Int) < (m.tables.length : Int) := by omega
              obtain ⟨⟨g0, g1, g2, g3, g4, g5⟩, -⟩ := mdA_cells ST.md
              rw [Mc.th3_end] at HR0
              clear ST
              go_wp2_with fail
              go_loopw [94] (fun iv wr => ∃ i : Nat, iv = .int .i64 (i : Int) ∧ i ≤ m.globals.length ∧ Hid (REx w wr m x zTh (Mc.th4 m i))) (fun iv _ => m.globals.length - (intOf iv).toNat)
              case atStart => exact ⟨0, rfl, by omega, HR0⟩
              case round =>
                clear HR0 g0 g1 g2 g3 g4 g5
                obtain ⟨i, rfl, hi, HR0⟩ := hrel
                have HS := HR0.out
                obtain ⟨-, -, -, F, fc, B, bc, G, gc, ST⟩ := HS
                by_cases hia : i < m.globals.length
                · have x0 : (i : Int) < (m.globals.length : Int) := by omega
                  have x1 : (0 : Int) ≤ (i : Int) := by omega
                  obtain ⟨g, o, hA, -, hgl, hat⟩ := (hM.out.on ST.bel).gl.get hia
                  have htk : m.globals.take i ++ [m.globals[i]] = m.globals.take (i + 1) := (List.take_succ_eq_append_getElem hia).symm
                  obtain ⟨y, hy⟩ : ∃ y, m.globals[i] = y := ⟨_, rfl⟩
                  rw [hy] at hat htk
                  rw [hA]
                  clear hy
                  obtain ⟨A1, n1, c1, f0, f1, f2⟩ := hat
                  go_upto_region 28 with fail
                  refine at_code (F := fun W => Hid (RSt w W m x zTh F fc (Mc.th4 m i).funcs B bc (Mc.th4 m i).tables (Mc.th4 m i).mems G gc (Mc.th4 m i).globals) ∧ Hid (Var W wr.heap.size #[.int .i64 y.1, .bool y.2, .slice A1 n1 c1] 81)) ⟨Lib.hid (ST.below ((Below.refl _ _).alloc (Nat.le_refl _) _)), Lib.hid (Var.new _ _ _)⟩ ?_
                  clear f0 f1 f2 ST
                  obtain ⟨K5, hK5⟩ : ∃ K, wr.heap.size = K := ⟨_, rfl⟩
                  simp only [hK5]
                  clear hK5
                  rintro W4 ⟨S4, HVX⟩
                  have LW := Mc.th4_low hf i
                  have f0 := HVX.out.cells 0
                  have f1 := HVX.out.cells 1
                  obtain ⟨⟨t0, t1, t2, t3, t4, t5, t6, t7⟩, t8, t9, t10, t11, t12, t13, t14, t15⟩ := thA_cells S4.out.th
                  have z15 := S4.out.th.froz 15
                  have hlt := S4.out.th.lt
                  clear t0 t1 t2 t3 t4 t5 t6 t7 t8 t9 t10 t11
                  dsimp only [thP, txOf] at t12 t13 t14 t15
                  have HN : Mc.th4 m (i + 1) = ⟨m.types, (Mc.th4 m i).funcs, (Mc.th4 m i).tables, (Mc.th4 m i).mems, (Mc.th4 m i).globals ++ [y], m.elems, m.datas⟩ := Mc.th4_G htk
                  clear htk HVX
                  go_wp2_with (at_builtin; have haa := (Below.refl W4.heap.size W4).alloc (Nat.le_refl _) (.cells #[.int .i64 y.1, .bool y.2] 74); have SA := S4.out.below haa; refine app_rs Tryz.underlying95 hl0 lz0 lz1 lz2 hzs (by omega) encG_len encG_one _ rfl (.tmp 99) (.tmp 102) rfl (w.heap.size + 3) (.slice G (Mc.th4 m i).globals.length gc) (Mc.th4 m i).globals.length (Mc.th4 m i).globals (by rfl) SA.oG [y] 1 1 _ rfl (by rfl) (one_glob W4 y) (by have := LW.1; have := LW.2.1; have := LW.2.2.2; omega) hbb (by have := SA.bel.size; have := SA.th.lt; omega) ?_; intro A' c' w6 own6 hg6; have POK := SA.appG own6 hg6; have V6 := var_grown SA.th SA.oG (by decide) hg6; have n1 := V6.cells 15; have n2 := V6.froz 15; have n3 := V6.lt; clear SA haa own6 hg6 V6)
                  go_roundw
                  case rel => exact ⟨i + 1, by go_num, by omega, Lib.hid (by rw [HN]; exact ⟨rfl, rfl, rfl, F, fc, B, bc, A', c', POK⟩)⟩
                  case measure => simp [intOf]; omega
                · obtain rfl : i = m.globals.length := by omega
                  have x2 : ¬ (m.globals.length : Int) < (m.globals.length : Int) := by omega
                  rw [Mc.th4_end] at HR0
                  clear ST
                  obtain ⟨-, -, -, F, fc, B, bc, G, gc, ST⟩ := HR0.out
                  clear HR0
                  obtain ⟨⟨t0, t1, t2, t3, t4, t5, t6, t7⟩, t8, t9, t10, t11, t12, t13, t14, t15⟩ := thA_cells ST.th
                  dsimp only [thP, txOf] at t0 t1 t2 t3 t4 t5 t6 t7 t8 t9 t10 t11 t12 t13 t14 t15
                  rw [e6] at t6
                  rw [e7] at t7
                  rw [e8] at t8
                  rw [e11] at t11
                  obtain ⟨⟨r0, r1, r2, r3, r4, r5, r6, r7⟩, r8, r9, r10, r11, r12, r13, r14, r15⟩ := cells16 ST.res
                  have z0 := ST.res.froz 0
                  have z1 := ST.res.froz 1
                  have z2 := ST.res.froz 2
                  have z3 := ST.res.froz 3
                  have z4 := ST.res.froz 4
                  have z5 := ST.res.froz 5
                  have z6 := ST.res.froz 6
                  have z7 := ST.res.froz 7
                  have z8 := ST.res.froz 8
                  have z9 := ST.res.froz 9
                  have z10 := ST.res.froz 10
                  have z11 := ST.res.froz 11
                  have z12 := ST.res.froz 12
                  have z13 := ST.res.froz 13
                  have z14 := ST.res.froz 14
                  have z15 := ST.res.froz 15
                  have hlt := ST.res.lt
                  go_wp2_with fail
                  refine bodyPost_ret (results_cell_row rfl _ _ (w.heap.size + 1) _ _ (0, 0) _ rfl (put16 ST.res _ _ _ _ _ _ _ _ _ _ _ _ _ _ _ _).1 Tryz.underlying97 rfl (by kernel_rfl)) rfl ?_
                  exact ⟨⟨F, fc, B, bc, G, gc, by rw [← e6, ← e7, ← e8, ← e11]; rfl, (rFin ST hM.out (put16 ST.res _ _ _ _ _ _ _ _ _ _ _ _ _ _ _ _).2).2⟩, (rFin ST hM.out (put16 ST.res _ _ _ _ _ _ _ _ _ _ _ _ _ _ _ _).2).1⟩
end Go.Proofs.YtadnfekogmjieaaGreatDoor
