/-
  Layer 51: the items of a module in memory; numeric.
-/
import Derived.Test.YtadnfekogmjieaaGreatDoorGMC3
import Derived.Test.YtadnfekogmjieaaGreatDoorGMS1
set_option linter.unusedVariables false
set_option linter.unusedSimpArgs false
namespace Go.Proofs.YtadnfekogmjieaaGreatDoor
open Go.RowKit
open Mc (Pl Mi Mf Th Wt)
structure TX where
  TA : Option Addr
  tc : Nat
  v1 : Value
  v2 : Value
  v3 : Value
  v4 : Value
  v5 : Value
  v6 : Value
  v7 : Value
  v8 : Value
  EA : Option Addr
  ec : Nat
  DA : Option Addr
  dc : Nat
  v11 : Value
  FA : Option Addr
  fc : Nat
  BA : Option Addr
  bc : Nat
  GA : Option Addr
  gc : Nat
def thA (t : Th) (x : TX) : Array Value := #[.slice x.TA t.types.length x.tc, x.v1, x.v2, x.v3, x.v4, x.v5, x.v6, x.v7, x.v8, .slice x.EA t.elems x.ec, .slice x.DA t.datas x.dc, x.v11, .slice x.FA t.funcs.length x.fc, .slice x.BA t.tables.length x.bc, .int .i64 (t.mems : Int), .slice x.GA t.globals.length x.gc]
def TyAt (w : World) (g o : Nat) (f : List Int × List Int) : Prop := ∃ A c B d, w.cell? ⟨g, o, none⟩ = some (.slice A f.1.length c) ∧ w.cell? ⟨g, o + 1, none⟩ = some (.slice B f.2.length d)
def GlAt (w : World) (g o : Nat) (x : Int × Bool) : Prop := w.cell? ⟨g, o, none⟩ = some (.int .i64 x.1) ∧ w.cell? ⟨g, o + 1, none⟩ = some (.bool x.2)
structure ThRd (S : Nat → Prop) (w : World) (t : Th) (x : TX) : Prop where
  ty : RdT w S x.TA 2 TyAt t.types
  fn : RdZ w S x.FA t.funcs
  tb : RdZ w S x.BA t.tables
  gl : RdT w S x.GA 2 GlAt t.globals
section
variable {S S' : Nat → Prop} {w w' : World} {t : Th} {x : TX}
theorem TyAt.keep (hk : Keep S w w') (g o : Nat) (f : List Int × List Int) (hg : S g) (h : TyAt w g o f) : TyAt w' g o f := by
  obtain ⟨A, c, B, d, h1, h2⟩ := h
  exact ⟨A, c, B, d, hk _ _ hg h1, hk _ _ hg h2⟩
theorem GlAt.keep (hk : Keep S w w') (g o : Nat) (f : Int × Bool) (hg : S g) (h : GlAt w g o f) : GlAt w' g o f := ⟨hk _ _ hg h.1, hk _ _ hg h.2⟩
theorem ThRd.keep (h : ThRd S w t x) (hk : Keep S w w') (hs : w.heap.size ≤ w'.heap.size) : ThRd S w' t x :=
  ⟨RdT.keep (fun g o f hg hf => TyAt.keep hk g o f hg hf) hs h.ty, h.fn.keep hk hs, h.tb.keep hk hs, RdT.keep (fun g o f hg hf => GlAt.keep hk g o f hg hf) hs h.gl⟩
theorem ThRd.on (h : ThRd S w t x) (hb : Below w.heap.size w w') : ThRd S w' t x := h.keep (Below.keep hb S) hb.size
theorem ThRd.mono (h : ThRd S w t x) (hS : ∀ g, g < w.heap.size → S g → S' g) : ThRd S' w t x := ⟨RdT.mono h.ty hS (fun _ _ _ h => h), h.fn.mono hS, h.tb.mono hS, RdT.mono h.gl hS (fun _ _ _ h => h)⟩
end
theorem cells16 {W : World} {K : Nat} {T : TypeId} {v0 v1 v2 v3 v4 v5 v6 v7 v8 v9 v10 v11 v12 v13 v14 v15 : Value} (h : Var W K #[v0, v1, v2, v3, v4, v5, v6, v7, v8, v9, v10, v11, v12, v13, v14, v15] T) :
    (W.cell? ⟨K, 0, none⟩ = some v0 ∧ W.cell? ⟨K, 1, none⟩ = some v1 ∧ W.cell? ⟨K, 2, none⟩ = some v2 ∧ W.cell? ⟨K, 3, none⟩ = some v3 ∧ W.cell? ⟨K, 4, none⟩ = some v4 ∧ W.cell? ⟨K, 5, none⟩ = some v5 ∧ W.cell? ⟨K, 6, none⟩ = some v6 ∧ W.cell? ⟨K, 7, none⟩ = some v7) ∧
    (W.cell? ⟨K, 8, none⟩ = some v8 ∧ W.cell? ⟨K, 9, none⟩ = some v9 ∧ W.cell? ⟨K, 10, none⟩ = some v10 ∧ W.cell? ⟨K, 11, none⟩ = some v11 ∧ W.cell? ⟨K, 12, none⟩ = some v12 ∧ W.cell? ⟨K, 13, none⟩ = some v13 ∧ W.cell? ⟨K, 14, none⟩ = some v14 ∧ W.cell? ⟨K, 15, none⟩ = some v15) :=
  ⟨⟨h.cells 0, h.cells 1, h.cells 2, h.cells 3, h.cells 4, h.cells 5, h.cells 6, h.cells 7⟩, h.cells 8, h.cells 9, h.cells 10, h.cells 11, h.cells 12, h.cells 13, h.cells 14, h.cells 15⟩
def wtV (w : Wt) : Array Value := #[.int .i64 (w.d : Int), .int .i64 (w.s : Int), .int .i64 (w.t : Int), .bool w.more, .bool w.ok]
theorem put5 {W : World} {K : Nat} {t : TypeId} {a0 a1 a2 a3 a4 : Value} (h : Var W K #[a0, a1, a2, a3, a4] t) (b0 b1 b2 b3 b4 : Value) :
    Var (((((W.setCell ⟨K, 0, none⟩ b0).setCell ⟨K, 1, none⟩ b1).setCell ⟨K, 2, none⟩ b2).setCell ⟨K, 3, none⟩ b3).setCell ⟨K, 4, none⟩ b4) K #[b0, b1, b2, b3, b4] t ∧
    W.grownBy (((((W.setCell ⟨K, 0, none⟩ b0).setCell ⟨K, 1, none⟩ b1).setCell ⟨K, 2, none⟩ b2).setCell ⟨K, 3, none⟩ b3).setCell ⟨K, 4, none⟩ b4) (some K) :=
  ⟨by have h7 := ((((h.set 0 b0).set 1 b1).set 2 b2).set 3 b3).set 4 b4; simp only [List.setIfInBounds_toArray, List.set_cons_zero, List.set_cons_succ] at h7; exact h7,
   (grown_set _ _ _ _).trans ((grown_set _ _ _ _).trans ((grown_set _ _ _ _).trans ((grown_set _ _ _ _).trans (grown_set _ _ _ _))))⟩
theorem cells5 {W : World} {K : Nat} {T : TypeId} {v0 v1 v2 v3 v4 : Value} (h : Var W K #[v0, v1, v2, v3, v4] T) : (W.cell? ⟨K, 0, none⟩ = some v0 ∧ W.cell? ⟨K, 1, none⟩ = some v1 ∧ W.cell? ⟨K, 2, none⟩ = some v2 ∧ W.cell? ⟨K, 3, none⟩ = some v3 ∧ W.cell? ⟨K, 4, none⟩ = some v4) ∧ (W.frozen? ⟨K, 0, none⟩ = false ∧ W.frozen? ⟨K, 1, none⟩ = false ∧ W.frozen? ⟨K, 2, none⟩ = false ∧ W.frozen? ⟨K, 3, none⟩ = false ∧ W.frozen? ⟨K, 4, none⟩ = false) :=
  ⟨⟨h.cells 0, h.cells 1, h.cells 2, h.cells 3, h.cells 4⟩, h.froz 0, h.froz 1, h.froz 2, h.froz 3, h.froz 4⟩

set_option maxHeartbeats 4000000 in
set_option maxRecDepth 100000 in
theorem mnumeric_any (op : Int) (w : World) (G : Glob w) : Calls Tryz.prog 104 #[.int .i64 op] w fun e w' => e = .returned (.int .i64 (Mc.numO2 op : Int)) ∧ Below w.heap.size w w' := by
  obtain ⟨R, hR⟩ : ∃ R, Mc.numO2 op = R := ⟨_, rfl⟩
  rw [hR]
  unfold Mc.numO2 Mc.begN at hR
  have HN := Lib.hid (fun W (G : Glob W) => oname_in op W G)
  have HS := Lib.hid (fun W (G : Glob W) => osig_any op W G)
  have HW := Lib.hid (fun W (G : Glob W) => owidth_any op W G)
  have H1 := Lib.hid (fun W => hasPrefix_any (Opc.name op) Mc.i32d W)
  have H2 := Lib.hid (fun W => hasPrefix_any (Opc.name op) Mc.i64d W)
  obtain ⟨⟨⟨np, nr⟩, b⟩, hs⟩ : ∃ x, Mc.sigO op = x := ⟨_, rfl⟩
  obtain ⟨wd, hw⟩ : ∃ x, Mc.widO op = x := ⟨_, rfl⟩
  obtain ⟨p1, h1⟩ : ∃ x, Lib.hasPrefix (Opc.name op) Mc.i32d = x := ⟨_, rfl⟩
  obtain ⟨p2, h2⟩ : ∃ x, Lib.hasPrefix (Opc.name op) Mc.i64d = x := ⟨_, rfl⟩
  rw [hs, hw, h1, h2] at hR
  rw [hs] at HS
  rw [hw] at HW
  rw [h1] at H1
  rw [h2] at H2
  obtain ⟨s, hn⟩ : ∃ s, Opc.name op = s := ⟨_, rfl⟩
  rw [hn] at HN H1 H2
  unfold Mc.i32d at H1
  unfold Mc.i64d at H2
  dsimp only at hR
  have HG := Lib.hid G
  have hnr : ((nr : Int) != 1) = !(nr == 1) := by rw [Bool.eq_iff_iff]; simp; omega
  clear hs hw h1 h2 hn G
  go_enter Tryz.func104, Tryz.ntmps104
  go_upto_region 3 with (first
    | (go_at_call 70; refine (HN.out _ HG.out).mono ?_; rintro e w1 ⟨rfl, hb⟩; have B1 := hb)
    | (go_at_call 141; refine (HS.out _ (HG.out.below B1)).mono ?_; rintro e w2 ⟨⟨A, c, B, d, rfl⟩, hb⟩; have B2 := B1.trans (hb.mono B1.size); dsimp only))
  refine at_code (F := fun W => Hid (Below w.heap.size w W) ∧ Hid (Var W w2.heap.size #[.slice A np c, .slice B nr d] 36)) ⟨Lib.hid (B2.alloc B2.size _), Lib.hid (Var.new _ _ _)⟩ ?_
  clear B1 B2 hb HN HS
  obtain ⟨K, hK⟩ : ∃ K, w2.heap.size = K := ⟨_, rfl⟩
  simp only [hK]
  clear hK
  rintro W ⟨HB, HV⟩
  obtain ⟨q0, q1⟩ := cells2 HV.out
  rcases b with _ | _
  · go_wp2
    go_ret
    exact ⟨by rw [← hR]; rfl, HB.out⟩
  rcases hn1 : (nr == 1) with _ | _
  · rw [hn1] at hnr hR
    go_wp2
    go_ret
    exact ⟨by rw [← hR]; rfl, HB.out⟩
  rw [hn1] at hnr hR
  rcases hw0 : decide (0 < wd) with _ | _
  case true =>
    rw [hw0] at hR
    go_wp2_with (go_at_call 142; refine (HW.out _ (HG.out.below HB.out)).mono ?_; rintro e w3 ⟨rfl, hb⟩; have B3 := HB.out.trans (hb.mono HB.out.size))
    go_ret
    exact ⟨by rw [← hR]; rfl, B3⟩
  rw [hw0] at hR
  rcases p1 with _ | _
  case true =>
    go_wp2_with (first
      | (go_at_call 142; refine (HW.out _ (HG.out.below HB.out)).mono ?_; rintro e w3 ⟨rfl, hb⟩; have B3 := HB.out.trans (hb.mono HB.out.size); have V3 := var_keep HV.out hb; obtain ⟨t0, t1⟩ := cells2 V3)
      | (go_at_call 143; first | (refine (H1.out _).mono ?_; rintro e w4 ⟨rfl, rfl⟩) | (refine (H2.out _).mono ?_; rintro e w4 ⟨rfl, rfl⟩)))
    go_ret
    exact ⟨by rw [← hR]; rfl, B3⟩
  rcases p2 with _ | _
  all_goals
    go_wp2_with (first
      | (go_at_call 142; refine (HW.out _ (HG.out.below HB.out)).mono ?_; rintro e w3 ⟨rfl, hb⟩; have B3 := HB.out.trans (hb.mono HB.out.size); have V3 := var_keep HV.out hb; obtain ⟨t0, t1⟩ := cells2 V3)
      | (go_at_call 143; first | (refine (H1.out _).mono ?_; rintro e w4 ⟨rfl, rfl⟩) | (refine (H2.out _).mono ?_; rintro e w4 ⟨rfl, rfl⟩)))
    go_ret
    exact ⟨by rw [← hR]; rfl, B3⟩
end Go.Proofs.YtadnfekogmjieaaGreatDoor
