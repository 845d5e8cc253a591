/-
  Layer 40, the program: readIns. (Printed by gen_so5.py.)
-/
import Derived.Test.YtmhmpobjjhbklaaGreatDoorTk
import Derived.Test.YtmhmpobjjhbklaaGreatDoorSO4
import Derived.Deep.Cut
import Derived.Deep.CutRange
import Derived.Deep.RegionHeld3
set_option linter.unusedVariables false
set_option linter.unusedSimpArgs false
namespace Go.Proofs.YtmhmpobjjhbklaaGreatDoor
namespace St
theorem takeO_false {w : W} {r : Rs} (h : (takeO w r).1 = false) : (takeO w r).2 = r := by
  unfold takeO at h ⊢
  split
  · rename_i h1; rw [if_pos h1] at h; cases h
  · rfl
theorem optNum_in (w : W) (r : Rs) : InR (optNum w r).1 ∧ (optNum w r).2.l.length ≤ r.l.length := by
  have := takeO_len w r
  unfold optNum
  split
  · refine ⟨pint_in _, ?_⟩
    simp only [numO, List.length_tail]; omega
  · exact ⟨by simp [InR], Nat.le_refl _⟩
theorem numsGo_rest (l : List W) (ok : Bool) : (numsGo l ok).2.l.length ≤ l.length := by
  induction l generalizing ok with
  | nil => simp [numsGo]
  | cons w l ih =>
    unfold numsGo
    split
    · have := ih (ok && (pint w).2); simp only [List.length_cons]; omega
    · simp
theorem optNums_in (w : W) (r : Rs) : ((optNums w r).1.length ≤ r.l.length ∧ ∀ z ∈ (optNums w r).1, InR z) ∧ (optNums w r).2.l.length ≤ r.l.length := by
  have := takeO_len w r
  unfold optNums
  split
  · have h1 := numsGo_in (takeO w r).2.l (takeO w r).2.ok
    have h2 := numsGo_rest (takeO w r).2.l (takeO w r).2.ok
    exact ⟨⟨Nat.le_trans h1.1 this, h1.2⟩, Nat.le_trans h2 this⟩
  · simp
theorem optOp_len (r : Rs) : (optOp r).2.l.length ≤ r.l.length := by
  have := takeO_len lOp r
  unfold optOp
  split
  · simp only [List.length_tail]; omega
  · exact Nat.le_refl _
theorem optN_in (r : Rs) : (optN r).1 < 18446744073709551616 ∧ (optN r).2.l.length ≤ r.l.length := by
  have := takeO_len lN r
  unfold optN
  split
  · refine ⟨puint_in _, ?_⟩
    simp only [List.length_tail]; omega
  · simp
theorem insF_ok (k : Int) (r : Rs) (h : r.l.length ≤ 10000) : (insF k r).1.Ok := by
  unfold insF
  dsimp only
  have h1 := optOp_len r
  have h2 := optNum_in lA (optOp r).2
  have h3 := optNum_in lB (optNum lA (optOp r).2).2
  have h4 := optN_in (optNum lB (optNum lA (optOp r).2).2).2
  have h5 := optNums_in lOf (optN (optNum lB (optNum lA (optOp r).2).2).2).2
  have h6 := optNums_in lTo (optNums lOf (optN (optNum lB (optNum lA (optOp r).2).2).2).2).2
  have h51 := h5.1.1
  have h61 := h6.1.1
  refine ⟨h2.1, h3.1, h4.1, ⟨?_, h5.1.2⟩, ?_, h6.1.2⟩ <;> dsimp only <;> omega
end St
open Go.RowKit
open St (InR)
theorem found_eq (s : St.W) : found (Opc.seek s Opc.all) = .tuple #[.int .i64 (St.opFind s).1, .bool (St.opFind s).2] := by
  unfold St.opFind
  rcases Opc.seek s Opc.all with _ | _ <;> rfl
theorem put7 {W : World} {K : Nat} {t : TypeId} {a0 a1 a2 a3 a4 a5 a6 : Value} (h : Var W K #[a0, a1, a2, a3, a4, a5, a6] t) (b0 b1 b2 b3 b4 b5 b6 : Value) :
    Var (((((((W.setCell ⟨K, 0, none⟩ b0).setCell ⟨K, 1, none⟩ b1).setCell ⟨K, 2, none⟩ b2).setCell ⟨K, 3, none⟩ b3).setCell ⟨K, 4, none⟩ b4).setCell ⟨K, 5, none⟩ b5).setCell ⟨K, 6, none⟩ b6) K #[b0, b1, b2, b3, b4, b5, b6] t ∧
    W.grownBy (((((((W.setCell ⟨K, 0, none⟩ b0).setCell ⟨K, 1, none⟩ b1).setCell ⟨K, 2, none⟩ b2).setCell ⟨K, 3, none⟩ b3).setCell ⟨K, 4, none⟩ b4).setCell ⟨K, 5, none⟩ b5).setCell ⟨K, 6, none⟩ b6) (some K) :=
  ⟨by have h7 := ((((((h.set 0 b0).set 1 b1).set 2 b2).set 3 b3).set 4 b4).set 5 b5).set 6 b6; simp only [List.setIfInBounds_toArray, List.set_cons_zero, List.set_cons_succ] at h7; exact h7,
   (grown_set _ _ _ _).trans ((grown_set _ _ _ _).trans ((grown_set _ _ _ _).trans ((grown_set _ _ _ _).trans ((grown_set _ _ _ _).trans ((grown_set _ _ _ _).trans (grown_set _ _ _ _))))))⟩
theorem var_stay {W W' : World} {K k : Nat} {cs : Array Value} {t : TypeId} (h : Var W K cs t) (hg : W.grownBy W' (some k)) (hne : K ≠ k) : Var W' K cs t := (hg.block K h.lt (fun e => hne (by injection e))).trans h
theorem var_keep {W W' : World} {K : Nat} {cs : Array Value} {t : TypeId} (h : Var W K cs t) (hb : Below W.heap.size W W') : Var W' K cs t := h.below hb h.lt
/-- A write elsewhere leaves the reader. -/
theorem RAt.other {W W' : World} {N K Kx : Nat} {l : List (List UInt8)} {ok : Bool} {cs : Array Value} {t : TypeId} (h : RAt W N K l ok) (hv : Var W Kx cs t) (hne : K ≠ Kx) (hns : ∀ v ∈ cs.toList, ∀ x : List UInt8, (encS x)[0]? ≠ some v) (hg : W.grownBy W' (some Kx)) : RAt W' N K l ok := by
  obtain ⟨⟨A, c, hv1, hr, hc⟩, hN, wd⟩ := h
  exact ⟨⟨A, c, var_stay hv1 hg hne, hr.away encS_len (by omega) hv hns hg, hc⟩, Nat.le_trans hN hg.size, wd⟩
/-- A row of numbers that was made behind the blocks up to K. -/
def Row (W : World) (K : Nat) (A : Option Addr) (l : List Int) : Prop := RdS W W.heap.size A 1 encZ l ∧ ∀ g o, A = some ⟨g, o, none⟩ → K < g ∧ ∃ cs, W.heap[g]? = some (.cells cs 3 (0, 0))
theorem Row.stay {W W' : World} {K k : Nat} {A : Option Addr} {l : List Int} (h : Row W K A l) (hg : W.grownBy W' (some k)) (hk : k ≤ K) : Row W' K A l := by
  refine ⟨fun hl => ?_, fun g o e => ?_⟩
  case refine_2 =>
    obtain ⟨h2, cs, hcs⟩ := h.2 g o e
    exact ⟨h2, cs, (hg.block g (Array.getElem?_eq_some_iff.1 hcs).1 (fun e => by injection e with e; omega)).trans hcs⟩
  obtain ⟨g, o, e, hb, hc⟩ := h.1 hl
  have h2 := (h.2 g o e).1
  have := hg.size
  exact ⟨g, o, e, by omega, fun i hi j v hj => hg.cell (hc i hi j v hj) (fun e => by injection e with e; dsimp only at e; omega)⟩
theorem Row.nil_ {W : World} {K : Nat} : Row W K none [] := ⟨RdS.nil_, fun g o e => by cases e⟩
theorem Row.own {W : World} {K base n c : Nat} {A : Option Addr} {l : List Int} (h : W.ownsRow base 3 1 (.slice A n c) n (l.flatMap encZ)) (hb : K < base) : Row W K A l := by
  refine ⟨own_rds encZ_len (by omega) h, fun g o e => ?_⟩
  subst e
  have h1 := (h.lt g rfl).1
  obtain ⟨_, h2⟩ := h
  rcases h2 with ⟨h2, _⟩ | ⟨g', cap, cur, hv, _, hh, _⟩
  · cases h2
  · injection hv with hv
    injection hv with hv
    injection hv with hv
    subst hv
    exact ⟨by omega, cur, hh⟩
theorem Row.apart {W W' : World} {K base k n : Nat} {A : Option Addr} {l : List Int} {v : Value} {xs : List Value} {e : TypeId} (h : Row W K A l) (ho : W.ownsRow base e k v n xs) (hte : (3 : TypeId) ≠ e) (hg : W.grownBy W' v.ownBlock) : Row W' K A l := by
  have hne : ∀ g o, A = some ⟨g, o, none⟩ → some g ≠ v.ownBlock := fun g o e hk => by
    obtain ⟨_, cs, hcs⟩ := h.2 g o e
    exact own_ne_var ho hcs hte hk.symm
  refine ⟨fun hl => ?_, fun g o e => ?_⟩
  · obtain ⟨g, o, e, hb, hc⟩ := h.1 hl
    have := hg.size
    exact ⟨g, o, e, by omega, fun i hi j v hj => hg.cell (hc i hi j v hj) (hne g o e)⟩
  · obtain ⟨h2, cs, hcs⟩ := h.2 g o e
    exact ⟨h2, cs, (hg.block g (Array.getElem?_eq_some_iff.1 hcs).1 (hne g o e)).trans hcs⟩
theorem Row.rdz {W : World} {K N : Nat} {A : Option Addr} {l : List Int} (h : Row W K A l) (hN : N ≤ K) : RdZ W (fun g => N ≤ g) A l := RdZ.of_rds h.1 (fun g o e => by have := (h.2 g o e).1; omega)
theorem Row.below {W W' : World} {K : Nat} {A : Option Addr} {l : List Int} (h : Row W K A l) (hb : Below W.heap.size W W') : Row W' K A l := ⟨h.1.on hb, fun g o e => by
  obtain ⟨h2, cs, hcs⟩ := h.2 g o e
  exact ⟨h2, cs, (hb.block g (Array.getElem?_eq_some_iff.1 hcs).1).trans hcs⟩⟩
def insC (x : St.Ins) (A : Option Addr) (c : Nat) (B : Option Addr) (d : Nat) : Array Value := #[.int .i64 x.kind, .int .i64 x.op, .int .i64 x.a, .int .i64 x.b, .int .u64 (x.n : Int), .slice A x.args.length c, .slice B x.outs.length d]
theorem insC_nos (x : St.Ins) (A : Option Addr) (c : Nat) (B : Option Addr) (d : Nat) : ∀ v ∈ (insC x A c B d).toList, ∀ y : List UInt8, (encS y)[0]? ≠ some v := by
  intro v hv y
  simp [insC] at hv
  rcases hv with rfl | rfl | rfl | rfl | rfl | rfl | rfl <;> simp [encS]
/-- The state of readIns: the result's cell, the reader, the instruction so far. -/
structure InsSt (w W : World) (N K1 Kr Kx : Nat) (x : St.Ins) (r : St.Rs) : Prop where
  bel : Below w.heap.size w W
  res : Var W K1 #[.int .i64 0, .int .i64 0, .int .i64 0, .int .i64 0, .int .u64 0, .slice none 0 0, .slice none 0 0] 48
  rd : RAt W N Kr r.l r.ok
  cur : ∃ A c B d, Var W Kx (insC x A c B d) 48 ∧ Row W Kx A x.args ∧ Row W Kx B x.outs
  lo : w.heap.size ≤ K1
  l1 : K1 < Kr
  l2 : Kr < Kx
section
variable {w W W' : World} {N K1 Kr Kx : Nat} {x : St.Ins} {r : St.Rs}
theorem InsSt.ltx (S : InsSt w W N K1 Kr Kx x r) : Kx < W.heap.size := by obtain ⟨A, c, B, d, hv, -⟩ := S.cur; exact hv.lt
theorem InsSt.step (S : InsSt w W N K1 Kr Kx x r) {r' : St.Rs} (hr : RAt W' N Kr r'.l r'.ok) (hg : W.grownBy W' (some Kr)) : InsSt w W' N K1 Kr Kx x r' := by
  obtain ⟨h1, h2, h3, ⟨A, c, B, d, h4, h5, h6⟩, h7, h8, h9⟩ := S
  exact ⟨below_grown h1 hg h1.size (by omega), var_stay h2 hg (by omega), hr, ⟨A, c, B, d, var_stay h4 hg (by omega), h5.stay hg (by omega), h6.stay hg (by omega)⟩, h7, h8, h9⟩
theorem InsSt.below (S : InsSt w W N K1 Kr Kx x r) (hb : Below W.heap.size W W') : InsSt w W' N K1 Kr Kx x r := by
  obtain ⟨h1, h2, h3, ⟨A, c, B, d, h4, h5, h6⟩, h7, h8, h9⟩ := S
  exact ⟨h1.trans (hb.mono h1.size), var_keep h2 hb, h3.below hb, ⟨A, c, B, d, var_keep h4 hb, h5.below hb, h6.below hb⟩, h7, h8, h9⟩
theorem InsSt.cells (S : InsSt w W N K1 Kr Kx x r) : ∀ i, i < 7 → W.frozen? ⟨Kx, i, none⟩ = false ∧ ∃ v, W.cell? ⟨Kx, i, none⟩ = some v := by
  obtain ⟨A, c, B, d, hv, -⟩ := S.cur
  intro i hi
  refine ⟨hv.froz i, ?_⟩
  rw [hv.cells]
  exact ⟨_, Array.getElem?_eq_getElem (by simpa [insC] using hi)⟩
theorem InsSt.setOk (S : InsSt w W N K1 Kr Kx x r) (b : Bool) : InsSt w (W.setCell ⟨Kr, 1, none⟩ (.bool b)) N K1 Kr Kx x ⟨r.l, b⟩ := S.step (S.rd.setOk b) (grown_set _ _ _ _)
theorem InsSt.okc (S : InsSt w W N K1 Kr Kx x r) : W.cell? ⟨Kr, 1, none⟩ = some (.bool r.ok) ∧ W.frozen? ⟨Kr, 1, none⟩ = false := by
  obtain ⟨⟨A, c, hv, -⟩, -⟩ := S.rd
  exact ⟨(cells2 hv).2, hv.froz 1⟩
theorem InsSt.set (S : InsSt w W N K1 Kr Kx x r) {A c B d} (hv : Var W Kx (insC x A c B d) 48) (i : Nat) (u : Value) {y : St.Ins} {A' c' B' d'} (hy : (insC x A c B d).setIfInBounds i u = insC y A' c' B' d') (h5 : Row W Kx A' y.args) (h6 : Row W Kx B' y.outs) : InsSt w (W.setCell ⟨Kx, i, none⟩ u) N K1 Kr Kx y r := by
  have hg := grown_set W Kx i u
  have hs := hv.set i u
  rw [hy] at hs
  obtain ⟨h1, h2, h3, -, h7, h8, h9⟩ := S
  exact ⟨h1.setCell (p := ⟨Kx, i, none⟩) (by show w.heap.size ≤ Kx; omega) u, var_stay h2 hg (by omega), h3.other hv (by omega) (insC_nos _ _ _ _ _) hg, ⟨A', c', B', d', hs, h5.stay hg (Nat.le_refl _), h6.stay hg (Nat.le_refl _)⟩, h7, h8, h9⟩
theorem InsSt.setOp (S : InsSt w W N K1 Kr Kx x r) (z : Int) : InsSt w (W.setCell ⟨Kx, 1, none⟩ (.int .i64 z)) N K1 Kr Kx ⟨x.kind, z, x.a, x.b, x.n, x.args, x.outs⟩ r := by
  obtain ⟨A, c, B, d, hv, h5, h6⟩ := S.cur
  exact S.set (A' := A) (c' := c) (B' := B) (d' := d) hv 1 _ (by simp [insC]) h5 h6
theorem InsSt.setA (S : InsSt w W N K1 Kr Kx x r) (z : Int) : InsSt w (W.setCell ⟨Kx, 2, none⟩ (.int .i64 z)) N K1 Kr Kx ⟨x.kind, x.op, z, x.b, x.n, x.args, x.outs⟩ r := by
  obtain ⟨A, c, B, d, hv, h5, h6⟩ := S.cur
  exact S.set (A' := A) (c' := c) (B' := B) (d' := d) hv 2 _ (by simp [insC]) h5 h6
theorem InsSt.setB (S : InsSt w W N K1 Kr Kx x r) (z : Int) : InsSt w (W.setCell ⟨Kx, 3, none⟩ (.int .i64 z)) N K1 Kr Kx ⟨x.kind, x.op, x.a, z, x.n, x.args, x.outs⟩ r := by
  obtain ⟨A, c, B, d, hv, h5, h6⟩ := S.cur
  exact S.set (A' := A) (c' := c) (B' := B) (d' := d) hv 3 _ (by simp [insC]) h5 h6
theorem InsSt.setN (S : InsSt w W N K1 Kr Kx x r) (z : Nat) : InsSt w (W.setCell ⟨Kx, 4, none⟩ (.int .u64 (z : Int))) N K1 Kr Kx ⟨x.kind, x.op, x.a, x.b, z, x.args, x.outs⟩ r := by
  obtain ⟨A, c, B, d, hv, h5, h6⟩ := S.cur
  exact S.set (A' := A) (c' := c) (B' := B) (d' := d) hv 4 _ (by simp [insC]) h5 h6
theorem InsSt.setArgs (S : InsSt w W N K1 Kr Kx x r) {A c l} (h : Row W Kx A l) : InsSt w (W.setCell ⟨Kx, 5, none⟩ (.slice A l.length c)) N K1 Kr Kx ⟨x.kind, x.op, x.a, x.b, x.n, l, x.outs⟩ r := by
  obtain ⟨A0, c0, B, d, hv, h5, h6⟩ := S.cur
  exact S.set (A' := A) (c' := c) (B' := B) (d' := d) hv 5 _ (by simp [insC]) h h6
theorem InsSt.setOuts (S : InsSt w W N K1 Kr Kx x r) {A c l} (h : Row W Kx A l) : InsSt w (W.setCell ⟨Kx, 6, none⟩ (.slice A l.length c)) N K1 Kr Kx ⟨x.kind, x.op, x.a, x.b, x.n, x.args, l⟩ r := by
  obtain ⟨A0, c0, B, d, hv, h5, h6⟩ := S.cur
  exact S.set (A' := A0) (c' := c0) (B' := A) (d' := c) hv 6 _ (by simp [insC]) h5 h
end
theorem info_sins : (Tryz.prog.info? 48).map (·.size) = some 7 := by kernel_rfl
theorem setRow_other (w : World) (g k : Nat) (cs : Array Value) (hne : k ≠ g) : (w.setRow g cs).heap[k]? = w.heap[k]? := by
  show (w.heap.modify g _)[k]? = _
  rw [Array.getElem?_modify]
  split
  · rename_i h; exact absurd h.symm hne
  · rfl
theorem setRow_grown (W : World) (g : Nat) (cs : Array Value) : W.grownBy (W.setRow g cs) (some g) :=
  ⟨rfl, rfl, rfl, by show W.heap.size ≤ (W.heap.modify g _).size; rw [Array.size_modify]; omega, fun k _ hne => setRow_other W g k cs (fun e => hne (by rw [e]))⟩
theorem insFin {w W X : World} {Kx : Nat} {A B : Option Addr} {l m : List Int} (h1 : w.heap.size < Kx) (h2 : w.heap.size ≤ W.heap.size) (hB : Below w.heap.size w W) (hX : Below W.heap.size W X) (h5 : Row W Kx A l) (h6 : Row W Kx B m) (K : Nat) (hK : w.heap.size ≤ K) (hK2 : K ≤ Kx) (cs : Array Value) :
    Below w.heap.size w (X.setRow K cs) ∧ RdZ (X.setRow K cs) (fun g => w.heap.size ≤ g) A l ∧ RdZ (X.setRow K cs) (fun g => w.heap.size ≤ g) B m :=
  ⟨below_grown (hB.trans (hX.mono h2)) (setRow_grown X K cs) (Nat.le_trans h2 hX.size) hK, ((h5.below hX).stay (setRow_grown X K cs) hK2).rdz (by omega), ((h6.below hX).stay (setRow_grown X K cs) hK2).rdz (by omega)⟩
/-- What readIns gives. -/
def InsOut (N : Nat) (R : St.Ins × Bool) (e : Ending) (w' : World) : Prop :=
  ∃ A c B d, e = .returned (.tuple #[.agg (insC R.1 A c B d), .bool R.2]) ∧ RdZ w' (fun g => N ≤ g) A R.1.args ∧ RdZ w' (fun g => N ≤ g) B R.1.outs

set_option maxHeartbeats 16000000 in
set_option maxRecDepth 100000 in
/-- stext.readIns. -/
theorem sreadIns_any (s : St.W) (hs : s.length ≤ 1000000) (hf : (Lib.fieldsD s).length ≤ 10000) (w : World) (G : Glob w) :
    Calls Tryz.prog 70 #[.string ⟨s.toArray⟩] w fun e w' => InsOut w.heap.size (St.insP s) e w' ∧ Below w.heap.size w w' := by
  have hkl : St.kindW.length = 20 := by decide +kernel
  have HF := Lib.hid (fun W (G : Glob W) => fields_any s hs W G)
  have HNew := Lib.hid (fun (W : World) (A : Option Addr) (h : RdS W W.heap.size A 1 encS (Lib.fieldsD s)) => RAt.new hs h)
  obtain ⟨R, hR⟩ : ∃ x, St.insP s = x := ⟨_, rfl⟩
  rw [hR]
  unfold St.insP at hR
  obtain ⟨L, hL⟩ : ∃ x, Lib.fieldsD s = x := ⟨_, rfl⟩
  rw [hL] at HF HNew hR hf
  clear hL
  have HNx := Lib.hid (fun N K W (h : RAt W N K L true) => rnext_any N K L true W h)
  have HIx := Lib.hid (fun (u : St.W) W (G : Glob W) => sindex_any St.kindT (by decide) St.kindW rfl (by omega) u W G)
  obtain ⟨hd, hhd⟩ : ∃ x, L.headD [] = x := ⟨_, rfl⟩
  obtain ⟨tl, htl⟩ : ∃ x, L.tail = x := ⟨_, rfl⟩
  rw [hhd, htl] at HNx hR
  have htl2 : tl.length ≤ 10000 := by rw [← htl, List.length_tail]; omega
  clear hhd htl hkl
  obtain ⟨k, hk⟩ : ∃ x, St.idx St.kindW hd = x := ⟨_, rfl⟩
  rw [hk] at hR
  have HK := Lib.hid hk
  clear hk
  rw [show St.kindT = [112, 97, 114, 97, 109, 32, 99, 111, 110, 115, 116, 32, 110, 117, 108, 108, 32, 117, 110, 32, 98, 105, 110, 32, 115, 101, 108, 101, 99, 116, 32, 108, 111, 97, 100, 32, 115, 116, 111, 114, 101, 32, 99, 104, 101, 99, 107, 32, 115, 105, 122, 101, 32, 103, 114, 111, 119, 32, 103, 108, 111, 98, 97, 108, 32, 115, 101, 116, 32, 99, 97, 108, 108, 32, 99, 97, 108, 108, 105, 110, 32, 114, 101, 102, 32, 105, 115, 110, 117, 108, 108, 32, 98, 117, 108, 107, 32, 116, 97, 98, 32, 102, 117, 101, 108] from rfl] at HIx
  have HR := Lib.hid hR
  have HG := Lib.hid G
  clear hR G
  have HB0 := Lib.hid ((Below.refl w.heap.size w).alloc (Nat.le_refl _) (.cells #[.int .i64 0, .int .i64 0, .int .i64 0, .int .i64 0, .int .u64 0, .slice none 0 0, .slice none 0 0] 48))
  go_enter Tryz.func70, Tryz.ntmps70
  go_upto_region 3 with (first
    | (go_at_call 66; refine (HF.out _ (HG.out.below HB0.out)).mono ?_; rintro e w1 ⟨⟨A0, rfl, hrd⟩, hb⟩; have v1 := (Var.new w #[.int .i64 0, .int .i64 0, .int .i64 0, .int .i64 0, .int .u64 0, .slice none 0 0, .slice none 0 0] 48).below hb (by simp); have b1 := HB0.out.trans (hb.mono (by simp)); have hk1 : w.heap.size + 1 ≤ w1.heap.size := (by have := hb.size; simp at this; omega); have r0 := HNew.out _ _ hrd; have b2 := b1.alloc b1.size (.cells #[.slice A0 L.length L.length, .bool true] 132); have v2 := v1.alloc (.cells #[.slice A0 L.length L.length, .bool true] 132); clear hrd hb v1 b1)
    | (go_at_call 97; refine (HNx.out _ _ _ r0).mono ?_; rintro e w2 ⟨rfl, r1, g1⟩; have b3 := below_grown b2 g1 b2.size (by omega); have v3 := var_stay v2 g1 (by omega); clear r0 b2 v2 g1)
    | (go_at_call 96; refine (HIx.out _ _ (HG.out.below b3)).mono ?_; rintro e w3 ⟨rfl, hb⟩; rw [HK.out]; have r2 := r1.below hb; have b4 := b3.trans (hb.mono b3.size); have v4 := var_keep v3 hb; clear r1 b3 v3 hb))
  have hk4 : w1.heap.size < w3.heap.size := r2.lt
  obtain ⟨N, hN⟩ : ∃ N, w1.heap.size = N := ⟨_, rfl⟩
  rw [hN] at r2 hk1 hk4
  simp only [hN]
  refine at_code (F := fun W => InsSt w W N w.heap.size N w3.heap.size ⟨k, 0, 0, 0, 0, [], []⟩ ⟨tl, true⟩) ⟨b4.alloc b4.size _, v4.alloc _, r2.below ((Below.refl _ _).alloc (Nat.le_refl _) _), ⟨none, 0, none, 0, Var.new _ _ _, Row.nil_, Row.nil_⟩, Nat.le_refl _, by omega, hk4⟩ ?_
  clear v4 b4 r2 HF HNew HNx HIx HK HB0 hN hk1
  obtain ⟨Kx, hKx⟩ : ∃ Kx, w3.heap.size = Kx := ⟨_, rfl⟩
  simp only [hKx]
  clear hKx hk4
  have hok := St.insF_ok k ⟨tl, true⟩ htl2
  unfold St.insF at HR hok
  dsimp only at HR hok
  have hin := HR.out
  clear HR htl2
  obtain ⟨rok0, hrok⟩ : ∃ b, b = true := ⟨_, rfl⟩
  rw [← hrok] at hin hok ⊢
  obtain ⟨rl0, hrl⟩ : ∃ x, tl = x := ⟨_, rfl⟩
  rw [hrl] at hin hok ⊢
  clear hrok hrl
  intro W S
  obtain ⟨⟨v1, ⟨rl1, rok1⟩⟩, ho⟩ : ∃ x, St.optOp ⟨rl0, rok0⟩ = x := ⟨_, rfl⟩
  rw [ho] at hin hok
  unfold St.optOp at ho
  have hto := St.takeO_ok St.lOp ⟨rl0, rok0⟩
  have HTk := Lib.hid (fun W (h : RAt W N N rl0 rok0) => rtake_any St.lOp N N rl0 rok0 W h)
  have hf := St.takeO_false (w := St.lOp) (r := ⟨rl0, rok0⟩)
  obtain ⟨⟨tb, ⟨tl, tok⟩⟩, ht⟩ : ∃ x, St.takeO St.lOp ⟨rl0, rok0⟩ = x := ⟨_, rfl⟩
  rw [ht] at ho hto HTk hf
  dsimp only at ho hto HTk hf
  subst hto
  have HO := Lib.hid ho
  have HFalse := Lib.hid hf
  have HIN := Lib.hid hin
  have HOK := Lib.hid hok
  clear ho ht hf hin hok
  unfold St.lOp at HTk
  go_upto_if 19 with (go_at_call 94; refine (HTk.out _ S.rd).mono ?_; rintro e W1 ⟨rfl, r5, g5⟩; have S1 := S.step (r' := ⟨tl, tok⟩) r5 g5)
  clear S r5 g5 HTk
  go_cut [6] from 7 (fun s6 wx => InsSt w wx N w.heap.size N Kx ⟨k, v1, 0, 0, 0, [], []⟩ ⟨rl1, rok1⟩)
  case first =>
    clear HIN HOK
    have hNK := S1.l2
    rcases tb with _ | _
    · go_wp2_with fail
      go_meet
      have h1 := HO.out
      have h2 := HFalse.out (by trivial)
      simp at h1 h2
      obtain ⟨rfl, rfl, rfl⟩ := h1
      obtain rfl := h2
      exact S1
    · have h1 := HO.out
      simp only [if_true, St.numO, St.numsO, Prod.mk.injEq, St.Rs.mk.injEq] at h1
      clear HO HFalse
      obtain ⟨e1, e2, e3⟩ := h1
      have HNx := Lib.hid (rnext_any N N tl tok W1 S1.rd)
      obtain ⟨hd, hhd⟩ : ∃ x, tl.headD [] = x := ⟨_, rfl⟩
      rw [hhd] at HNx e1 e3
      have HFi := Lib.hid (fun W (G : Glob W) => ofind_any hd W G)
      rw [found_eq hd] at HFi
      obtain ⟨⟨fo, fb⟩, hfo⟩ : ∃ x, St.opFind hd = x := ⟨_, rfl⟩
      rw [hfo] at HFi e1 e3
      dsimp only at HFi e1 e3
      obtain ⟨tt, htt⟩ : ∃ x, tl.tail = x := ⟨_, rfl⟩
      rw [htt] at HNx e2
      subst e1 e2
      have HE3 := Lib.hid e3
      clear hhd hfo htt e3
      go_upto_region 5 with (first
        | (go_at_call 97; refine HNx.out.mono ?_; rintro e W2 ⟨rfl, r6, g6⟩; have S2 := S1.step (r' := ⟨_, _⟩) r6 g6; clear S1)
        | (go_at_call 99; refine (HFi.out _ (HG.out.below S2.bel)).mono ?_; rintro e W3 ⟨rfl, hb⟩; have S3 := S2.below hb; clear S2 hb))
      have q1 := (S3.cells 1 (by omega)).1
      obtain ⟨q0, q2⟩ := (S3.cells 1 (by omega)).2
      have q3 := S3.ltx
      have q4 := (S3.setOp fo).okc
      have q5 := S3.okc
      have S4 := Lib.hid ((S3.setOp fo).setOk (tok && fb))
      dsimp only at q4 q5
      clear S3
      rcases tok with _ | _ <;> go_wp2_with fail
      all_goals go_meet
      all_goals (rw [← HE3.out]; exact S4.out)
  case rest =>
  clear S1 HO HFalse
  have hin := HIN.out
  have hok := HOK.out
  clear HIN HOK
  have S := hcut
  clear hcut
  obtain ⟨⟨v2, ⟨rl2, rok2⟩⟩, ho⟩ : ∃ x, St.optNum St.lA ⟨rl1, rok1⟩ = x := ⟨_, rfl⟩
  rw [ho] at hin hok
  unfold St.optNum at ho
  have hto := St.takeO_ok St.lA ⟨rl1, rok1⟩
  have HTk := Lib.hid (fun W (h : RAt W N N rl1 rok1) => rtake_any St.lA N N rl1 rok1 W h)
  have hf := St.takeO_false (w := St.lA) (r := ⟨rl1, rok1⟩)
  obtain ⟨⟨tb, ⟨tl, tok⟩⟩, ht⟩ : ∃ x, St.takeO St.lA ⟨rl1, rok1⟩ = x := ⟨_, rfl⟩
  rw [ht] at ho hto HTk hf
  dsimp only at ho hto HTk hf
  subst hto
  have HO := Lib.hid ho
  have HFalse := Lib.hid hf
  have HIN := Lib.hid hin
  have HOK := Lib.hid hok
  clear ho ht hf hin hok
  unfold St.lA at HTk
  go_upto_if 39 with (go_at_call 94; refine (HTk.out _ S.rd).mono ?_; rintro e W1 ⟨rfl, r5, g5⟩; have S1 := S.step (r' := ⟨tl, tok⟩) r5 g5)
  clear S r5 g5 HTk
  go_cut [6] from 7 (fun s6 wx => InsSt w wx N w.heap.size N Kx ⟨k, v1, v2, 0, 0, [], []⟩ ⟨rl2, rok2⟩)
  case first =>
    clear HIN HOK
    have hNK := S1.l2
    rcases tb with _ | _
    · go_wp2_with fail
      go_meet
      have h1 := HO.out
      have h2 := HFalse.out (by trivial)
      simp at h1 h2
      obtain ⟨rfl, rfl, rfl⟩ := h1
      obtain rfl := h2
      exact S1
    · have h1 := HO.out
      simp only [if_true, St.numO, St.numsO, Prod.mk.injEq, St.Rs.mk.injEq] at h1
      clear HO HFalse
      obtain ⟨e1, e2, e3⟩ := h1
      have HNum := Lib.hid (rdnum_any N N tl tok w W1 HG.out S1.bel (by have := S1.lo; have := S1.l1; omega) S1.rd)
      obtain ⟨⟨fo, fb⟩, hfo⟩ : ∃ x, pint (tl.headD []) = x := ⟨_, rfl⟩
      rw [hfo] at HNum e1 e3
      dsimp only at HNum e1 e3
      obtain ⟨tt, htt⟩ : ∃ x, tl.tail = x := ⟨_, rfl⟩
      rw [htt] at HNum e2
      subst e1 e2
      have HE3 := Lib.hid e3
      clear hfo htt e3
      go_wp2_with (go_at_call 98; refine HNum.out.mono ?_; rintro e W2 ⟨rfl, r6, g6⟩; have S2 := S1.step (r' := ⟨_, _⟩) r6 g6; have q1 := (S2.cells 2 (by omega)).1; obtain ⟨q0, q2⟩ := (S2.cells 2 (by omega)).2; have q3 := S2.ltx)
      go_meet
      rw [← HE3.out]; exact S2.setA _
  case rest =>
  clear S1 HO HFalse
  have hin := HIN.out
  have hok := HOK.out
  clear HIN HOK
  have S := hcut
  clear hcut
  obtain ⟨⟨v3, ⟨rl3, rok3⟩⟩, ho⟩ : ∃ x, St.optNum St.lB ⟨rl2, rok2⟩ = x := ⟨_, rfl⟩
  rw [ho] at hin hok
  unfold St.optNum at ho
  have hto := St.takeO_ok St.lB ⟨rl2, rok2⟩
  have HTk := Lib.hid (fun W (h : RAt W N N rl2 rok2) => rtake_any St.lB N N rl2 rok2 W h)
  have hf := St.takeO_false (w := St.lB) (r := ⟨rl2, rok2⟩)
  obtain ⟨⟨tb, ⟨tl, tok⟩⟩, ht⟩ : ∃ x, St.takeO St.lB ⟨rl2, rok2⟩ = x := ⟨_, rfl⟩
  rw [ht] at ho hto HTk hf
  dsimp only at ho hto HTk hf
  subst hto
  have HO := Lib.hid ho
  have HFalse := Lib.hid hf
  have HIN := Lib.hid hin
  have HOK := Lib.hid hok
  clear ho ht hf hin hok
  unfold St.lB at HTk
  go_upto_if 44 with (go_at_call 94; refine (HTk.out _ S.rd).mono ?_; rintro e W1 ⟨rfl, r5, g5⟩; have S1 := S.step (r' := ⟨tl, tok⟩) r5 g5)
  clear S r5 g5 HTk
  go_cut [6] from 7 (fun s6 wx => InsSt w wx N w.heap.size N Kx ⟨k, v1, v2, v3, 0, [], []⟩ ⟨rl3, rok3⟩)
  case first =>
    clear HIN HOK
    have hNK := S1.l2
    rcases tb with _ | _
    · go_wp2_with fail
      go_meet
      have h1 := HO.out
      have h2 := HFalse.out (by trivial)
      simp at h1 h2
      obtain ⟨rfl, rfl, rfl⟩ := h1
      obtain rfl := h2
      exact S1
    · have h1 := HO.out
      simp only [if_true, St.numO, St.numsO, Prod.mk.injEq, St.Rs.mk.injEq] at h1
      clear HO HFalse
      obtain ⟨e1, e2, e3⟩ := h1
      have HNum := Lib.hid (rdnum_any N N tl tok w W1 HG.out S1.bel (by have := S1.lo; have := S1.l1; omega) S1.rd)
      obtain ⟨⟨fo, fb⟩, hfo⟩ : ∃ x, pint (tl.headD []) = x := ⟨_, rfl⟩
      rw [hfo] at HNum e1 e3
      dsimp only at HNum e1 e3
      obtain ⟨tt, htt⟩ : ∃ x, tl.tail = x := ⟨_, rfl⟩
      rw [htt] at HNum e2
      subst e1 e2
      have HE3 := Lib.hid e3
      clear hfo htt e3
      go_wp2_with (go_at_call 98; refine HNum.out.mono ?_; rintro e W2 ⟨rfl, r6, g6⟩; have S2 := S1.step (r' := ⟨_, _⟩) r6 g6; have q1 := (S2.cells 3 (by omega)).1; obtain ⟨q0, q2⟩ := (S2.cells 3 (by omega)).2; have q3 := S2.ltx)
      go_meet
      rw [← HE3.out]; exact S2.setB _
  case rest =>
  clear S1 HO HFalse
  have hin := HIN.out
  have hok := HOK.out
  clear HIN HOK
  have S := hcut
  clear hcut
  obtain ⟨⟨v4, ⟨rl4, rok4⟩⟩, ho⟩ : ∃ x, St.optN ⟨rl3, rok3⟩ = x := ⟨_, rfl⟩
  rw [ho] at hin hok
  unfold St.optN at ho
  have hto := St.takeO_ok St.lN ⟨rl3, rok3⟩
  have HTk := Lib.hid (fun W (h : RAt W N N rl3 rok3) => rtake_any St.lN N N rl3 rok3 W h)
  have hf := St.takeO_false (w := St.lN) (r := ⟨rl3, rok3⟩)
  obtain ⟨⟨tb, ⟨tl, tok⟩⟩, ht⟩ : ∃ x, St.takeO St.lN ⟨rl3, rok3⟩ = x := ⟨_, rfl⟩
  rw [ht] at ho hto HTk hf
  dsimp only at ho hto HTk hf
  subst hto
  have HO := Lib.hid ho
  have HFalse := Lib.hid hf
  have HIN := Lib.hid hin
  have HOK := Lib.hid hok
  clear ho ht hf hin hok
  unfold St.lN at HTk
  go_upto_if 49 with (go_at_call 94; refine (HTk.out _ S.rd).mono ?_; rintro e W1 ⟨rfl, r5, g5⟩; have S1 := S.step (r' := ⟨tl, tok⟩) r5 g5)
  clear S r5 g5 HTk
  go_cut [6] from 7 (fun s6 wx => InsSt w wx N w.heap.size N Kx ⟨k, v1, v2, v3, v4, [], []⟩ ⟨rl4, rok4⟩)
  case first =>
    clear HIN HOK
    have hNK := S1.l2
    rcases tb with _ | _
    · go_wp2_with fail
      go_meet
      have h1 := HO.out
      have h2 := HFalse.out (by trivial)
      simp at h1 h2
      obtain ⟨rfl, rfl, rfl⟩ := h1
      obtain rfl := h2
      exact S1
    · have h1 := HO.out
      simp only [if_true, St.numO, St.numsO, Prod.mk.injEq, St.Rs.mk.injEq] at h1
      clear HO HFalse
      obtain ⟨e1, e2, e3⟩ := h1
      have HNx := Lib.hid (rnext_any N N tl tok W1 S1.rd)
      obtain ⟨hd, hhd⟩ : ∃ x, tl.headD [] = x := ⟨_, rfl⟩
      have hdl : hd.length ≤ 1000000 := by
        rcases tl with _ | ⟨u, tl⟩
        · rw [← hhd]; simp
        · rw [← hhd]; exact (S1.rd.wd.2 u (by simp)).2
      rw [hhd] at HNx e1 e3
      have HP := Lib.hid (fun W (G : Glob W) => parseUint_any hd hdl W G)
      obtain ⟨⟨fo, fb⟩, hfo⟩ : ∃ x, puint hd = x := ⟨_, rfl⟩
      rw [hfo] at HP e1 e3
      dsimp only at HP e1 e3
      obtain ⟨tt, htt⟩ : ∃ x, tl.tail = x := ⟨_, rfl⟩
      rw [htt] at HNx e2
      subst e1 e2
      have HE3 := Lib.hid e3
      clear hhd hfo htt e3 hdl
      go_upto_region 13 with (first
        | (go_at_call 97; refine HNx.out.mono ?_; rintro e W2 ⟨rfl, r6, g6⟩; have S2 := S1.step (r' := ⟨_, _⟩) r6 g6; clear S1)
        | (go_at_call 100; refine (HP.out _ (HG.out.below S2.bel)).mono ?_; rintro e W3 ⟨⟨ev, rfl, hev⟩, hb⟩; have S3 := S2.below hb; clear S2 hb))
      have q1 := (S3.cells 4 (by omega)).1
      obtain ⟨q0, q2⟩ := (S3.cells 4 (by omega)).2
      have q3 := S3.ltx
      have q4 := (S3.setN fo).okc
      have q5 := S3.okc
      have S4 := Lib.hid ((S3.setN fo).setOk (tok && fb))
      dsimp only at q4 q5
      clear S3
      rcases tok with _ | _
      · go_wp2_with fail
        go_meet
        rw [← HE3.out]; exact S4.out
      rcases fb with _ | _
      · obtain ⟨et, ep, rfl⟩ := hev
        go_wp2_with fail
        go_meet
        rw [← HE3.out]; exact S4.out
      · obtain rfl := hev
        go_wp2_with fail
        go_meet
        rw [← HE3.out]; exact S4.out
  case rest =>
  clear S1 HO HFalse
  have hin := HIN.out
  have hok := HOK.out
  clear HIN HOK
  have S := hcut
  clear hcut
  obtain ⟨⟨v5, ⟨rl5, rok5⟩⟩, ho⟩ : ∃ x, St.optNums St.lOf ⟨rl4, rok4⟩ = x := ⟨_, rfl⟩
  rw [ho] at hin hok
  unfold St.optNums at ho
  have hto := St.takeO_ok St.lOf ⟨rl4, rok4⟩
  have HTk := Lib.hid (fun W (h : RAt W N N rl4 rok4) => rtake_any St.lOf N N rl4 rok4 W h)
  have hf := St.takeO_false (w := St.lOf) (r := ⟨rl4, rok4⟩)
  obtain ⟨⟨tb, ⟨tl, tok⟩⟩, ht⟩ : ∃ x, St.takeO St.lOf ⟨rl4, rok4⟩ = x := ⟨_, rfl⟩
  rw [ht] at ho hto HTk hf
  dsimp only at ho hto HTk hf
  subst hto
  have HO := Lib.hid ho
  have HFalse := Lib.hid hf
  have HIN := Lib.hid hin
  have HOK := Lib.hid hok
  clear ho ht hf hin hok
  unfold St.lOf at HTk
  go_upto_if 70 with (go_at_call 94; refine (HTk.out _ S.rd).mono ?_; rintro e W1 ⟨rfl, r5, g5⟩; have S1 := S.step (r' := ⟨tl, tok⟩) r5 g5)
  clear S r5 g5 HTk
  go_cut [6] from 7 (fun s6 wx => InsSt w wx N w.heap.size N Kx ⟨k, v1, v2, v3, v4, v5, []⟩ ⟨rl5, rok5⟩)
  case first =>
    clear HIN HOK
    have hNK := S1.l2
    rcases tb with _ | _
    · go_wp2_with fail
      go_meet
      have h1 := HO.out
      have h2 := HFalse.out (by trivial)
      simp at h1 h2
      obtain ⟨rfl, rfl, rfl⟩ := h1
      obtain rfl := h2
      exact S1
    · have h1 := HO.out
      simp only [if_true, St.numO, St.numsO, Prod.mk.injEq, St.Rs.mk.injEq] at h1
      clear HO HFalse
      have HNum := Lib.hid (rdnums_any N N tl tok w W1 HG.out S1.bel (by have := S1.lo; have := S1.l1; omega) S1.rd)
      rw [h1] at HNum
      dsimp only at HNum
      have hlx := S1.ltx
      clear h1
      go_wp2_with (go_at_call 95; refine HNum.out.mono ?_; rintro e W2 ⟨A, c, rfl, own, r6, g6⟩; have S2 := S1.step (r' := ⟨_, _⟩) r6 g6; have q1 := (S2.cells 5 (by omega)).1; obtain ⟨q0, q2⟩ := (S2.cells 5 (by omega)).2; have q3 := S2.ltx; have rw2 := Row.own own hlx)
      go_meet
      exact S2.setArgs rw2
  case rest =>
  clear S1 HO HFalse
  have hin := HIN.out
  have hok := HOK.out
  clear HIN HOK
  have S := hcut
  clear hcut
  obtain ⟨⟨v6, ⟨rl6, rok6⟩⟩, ho⟩ : ∃ x, St.optNums St.lTo ⟨rl5, rok5⟩ = x := ⟨_, rfl⟩
  rw [ho] at hin hok
  unfold St.optNums at ho
  have hto := St.takeO_ok St.lTo ⟨rl5, rok5⟩
  have HTk := Lib.hid (fun W (h : RAt W N N rl5 rok5) => rtake_any St.lTo N N rl5 rok5 W h)
  have hf := St.takeO_false (w := St.lTo) (r := ⟨rl5, rok5⟩)
  obtain ⟨⟨tb, ⟨tl, tok⟩⟩, ht⟩ : ∃ x, St.takeO St.lTo ⟨rl5, rok5⟩ = x := ⟨_, rfl⟩
  rw [ht] at ho hto HTk hf
  dsimp only at ho hto HTk hf
  subst hto
  have HO := Lib.hid ho
  have HFalse := Lib.hid hf
  have HIN := Lib.hid hin
  have HOK := Lib.hid hok
  clear ho ht hf hin hok
  unfold St.lTo at HTk
  go_upto_if 75 with (go_at_call 94; refine (HTk.out _ S.rd).mono ?_; rintro e W1 ⟨rfl, r5, g5⟩; have S1 := S.step (r' := ⟨tl, tok⟩) r5 g5)
  clear S r5 g5 HTk
  go_cut [6] from 7 (fun s6 wx => InsSt w wx N w.heap.size N Kx ⟨k, v1, v2, v3, v4, v5, v6⟩ ⟨rl6, rok6⟩)
  case first =>
    clear HIN HOK
    have hNK := S1.l2
    rcases tb with _ | _
    · go_wp2_with fail
      go_meet
      have h1 := HO.out
      have h2 := HFalse.out (by trivial)
      simp at h1 h2
      obtain ⟨rfl, rfl, rfl⟩ := h1
      obtain rfl := h2
      exact S1
    · have h1 := HO.out
      simp only [if_true, St.numO, St.numsO, Prod.mk.injEq, St.Rs.mk.injEq] at h1
      clear HO HFalse
      have HNum := Lib.hid (rdnums_any N N tl tok w W1 HG.out S1.bel (by have := S1.lo; have := S1.l1; omega) S1.rd)
      rw [h1] at HNum
      dsimp only at HNum
      have hlx := S1.ltx
      clear h1
      go_wp2_with (go_at_call 95; refine HNum.out.mono ?_; rintro e W2 ⟨A, c, rfl, own, r6, g6⟩; have S2 := S1.step (r' := ⟨_, _⟩) r6 g6; have q1 := (S2.cells 6 (by omega)).1; obtain ⟨q0, q2⟩ := (S2.cells 6 (by omega)).2; have q3 := S2.ltx; have rw2 := Row.own own hlx)
      go_meet
      exact S2.setOuts rw2
  case rest =>
  clear S1 HO HFalse
  have hin := HIN.out
  have hok := HOK.out
  clear HIN HOK
  have S := hcut
  clear hcut
  go_upto_region 19 with fail
  refine at_code (F := fun W => InsSt w W N w.heap.size N Kx ⟨k, v1, v2, v3, v4, v5, v6⟩ ⟨rl6, rok6⟩) S ?_
  clear S
  intro W S
  have HOK := Lib.hid hok
  have HIN := Lib.hid hin
  obtain ⟨A, c, B, d, hv, h5, h6⟩ := S.cur
  obtain ⟨⟨A1, c1, hvr, -, -⟩, -, -⟩ := S.rd
  have hv' : Var W Kx #[.int .i64 k, .int .i64 v1, .int .i64 v2, .int .i64 v3, .int .u64 (v4 : Int), .slice A v5.length c, .slice B v6.length d] 48 := hv
  obtain ⟨c0, c1_, c2_, c3_, c4_, c5_, c6_⟩ := cells7 hv'
  obtain ⟨p0, p1⟩ := cells2 hvr
  have VR := S.res
  have hKx := S.ltx
  have hKr := hvr.lt
  have hKz := VR.lt
  have l12 := S.l1
  have l23 := S.l2
  have BEL := Lib.hid S.bel
  have R5 := Lib.hid h5
  have R6 := Lib.hid h6
  have HIns := Lib.hid (fun W' (h1 : RdS W' W'.heap.size A 1 encZ v5) (h2 : RdS W' W'.heap.size B 1 encZ v6) (G : Glob W') => sins_any ⟨k, v1, v2, v3, v4, v5, v6⟩ HOK.out A c B d W' h1 h2 G)
  unfold insV at HIns
  dsimp only at HIns
  clear hv hv' hvr S h5 h6 hok hin
  dsimp only at p0 p1
  have HR := Lib.hid HIN.out.symm
  clear HIN
  rcases rok6 with _ | _
  · skip
    have SS : (fun W' => W'.cell? ⟨Kx, 0, none⟩ = some (.int .i64 k) ∧ W'.cell? ⟨Kx, 1, none⟩ = some (.int .i64 v1) ∧ W'.cell? ⟨Kx, 2, none⟩ = some (.int .i64 v2) ∧ W'.cell? ⟨Kx, 3, none⟩ = some (.int .i64 v3) ∧ W'.cell? ⟨Kx, 4, none⟩ = some (.int .u64 (v4 : Int)) ∧ W'.cell? ⟨Kx, 5, none⟩ = some (.slice A v5.length c) ∧ W'.cell? ⟨Kx, 6, none⟩ = some (.slice B v6.length d) ∧ W'.cell? ⟨N, 0, none⟩ = some (.slice A1 rl6.length c1) ∧ W'.cell? ⟨N, 1, none⟩ = some (.bool false)) (World.drew W) := ⟨c0, c1_, c2_, c3_, c4_, c5_, c6_, p0, p1⟩
    dsimp only at SS
    have SSc := SS
    obtain ⟨t0, t1, t2, t3, t4, t5, t6, t7, t8⟩ := SSc
    have VD : (World.drew W).heap[w.heap.size]? = some (.cells #[.int .i64 0, .int .i64 0, .int .i64 0, .int .i64 0, .int .u64 0, .slice none 0 0, .slice none 0 0] 48 (0, 0)) := VR
    refine wp_region_held_drew (S := (fun W' => W'.cell? ⟨Kx, 0, none⟩ = some (.int .i64 k) ∧ W'.cell? ⟨Kx, 1, none⟩ = some (.int .i64 v1) ∧ W'.cell? ⟨Kx, 2, none⟩ = some (.int .i64 v2) ∧ W'.cell? ⟨Kx, 3, none⟩ = some (.int .i64 v3) ∧ W'.cell? ⟨Kx, 4, none⟩ = some (.int .u64 (v4 : Int)) ∧ W'.cell? ⟨Kx, 5, none⟩ = some (.slice A v5.length c) ∧ W'.cell? ⟨Kx, 6, none⟩ = some (.slice B v6.length d) ∧ W'.cell? ⟨N, 0, none⟩ = some (.slice A1 rl6.length c1) ∧ W'.cell? ⟨N, 1, none⟩ = some (.bool false))) (by kernel_rfl) ?_ (fun hHeld0 => ?_)
    · first | assumption | go_keep
    refine tk (i := 0) (oi := ⟨some 79, .load 48 (.tmp 5), 48, "stext.go:244", #[], none⟩) rfl ?_; (try simp only [Act.put, List.setIfInBounds_toArray, List.set_cons_succ, List.set_cons_zero])
    refine tk (i := 1) (oi := ⟨some 80, .move (.tmp 4), 130, "stext.go:244", #[], none⟩) rfl ?_; (try simp only [Act.put, List.setIfInBounds_toArray, List.set_cons_succ, List.set_cons_zero])
    refine tk (i := 2) (oi := ⟨some 81, .nilCheck (.tmp 80), 0, "stext.go:244", #[⟨1, .data⟩], none⟩) rfl ?_; (try simp only [Act.put, List.setIfInBounds_toArray, List.set_cons_succ, List.set_cons_zero])
    refine tk (i := 3) (oi := ⟨some 82, .fieldAddr 132 (.tmp 81) 1, 0, "stext.go:244", #[⟨2, .data⟩], none⟩) rfl ?_; (try simp only [Act.put, List.setIfInBounds_toArray, List.set_cons_succ, List.set_cons_zero])
    refine tk (i := 4) (oi := ⟨some 83, .load 4 (.tmp 82), 4, "stext.go:244", #[⟨3, .data⟩], none⟩) rfl ?_; (try simp only [Act.put, List.setIfInBounds_toArray, List.set_cons_succ, List.set_cons_zero])
    refine tk (i := 5) (oi := ⟨some 84, .move (.tmp 83), 4, "stext.go:244", #[⟨4, .data⟩], none⟩) rfl ?_; (try simp only [Act.put, List.setIfInBounds_toArray, List.set_cons_succ, List.set_cons_zero])
    refine tkN (i := 6) (oi := ⟨some 85, .fieldAddr 48 (.tmp 5) 0, 0, "stext.go:244", #[⟨5, .guard⟩], some (5, true)⟩) rfl ?_; (try simp only [Act.put, List.setIfInBounds_toArray, List.set_cons_succ, List.set_cons_zero])
    refine tkN (i := 7) (oi := ⟨some 86, .load 3 (.tmp 85), 3, "stext.go:244", #[⟨6, .data⟩, ⟨5, .guard⟩], some (5, true)⟩) rfl ?_; (try simp only [Act.put, List.setIfInBounds_toArray, List.set_cons_succ, List.set_cons_zero])
    refine tkN (i := 8) (oi := ⟨some 87, .binOp .geq 3 (.tmp 86) (.const (.int .i64 0)) 3, 4, "stext.go:244", #[⟨7, .data⟩, ⟨5, .guard⟩], some (5, true)⟩) rfl ?_; (try simp only [Act.put, List.setIfInBounds_toArray, List.set_cons_succ, List.set_cons_zero])
    refine tk (i := 9) (oi := ⟨some 88, .pick (.tmp 84) (.tmp 87) (.const (.bool false)), 4, "stext.go:244", #[⟨5, .data⟩, ⟨8, .data⟩], none⟩) rfl ?_; (try simp only [Act.put, List.setIfInBounds_toArray, List.set_cons_succ, List.set_cons_zero])
    refine tk (i := 10) (oi := ⟨some 89, .move (.tmp 88), 4, "stext.go:244", #[⟨9, .data⟩, ⟨5, .chain⟩], none⟩) rfl ?_; (try simp only [Act.put, List.setIfInBounds_toArray, List.set_cons_succ, List.set_cons_zero])
    refine tkN (i := 11) (oi := ⟨some 90, .move (.tmp 4), 130, "stext.go:244", #[⟨10, .guard⟩], some (10, true)⟩) rfl ?_; (try simp only [Act.put, List.setIfInBounds_toArray, List.set_cons_succ, List.set_cons_zero])
    refine tkN (i := 12) (oi := ⟨some 91, .nilCheck (.tmp 90), 0, "stext.go:244", #[⟨11, .data⟩, ⟨10, .guard⟩], some (10, true)⟩) rfl ?_; (try simp only [Act.put, List.setIfInBounds_toArray, List.set_cons_succ, List.set_cons_zero])
    refine tkN (i := 13) (oi := ⟨some 92, .fieldAddr 132 (.tmp 91) 0, 0, "stext.go:244", #[⟨12, .data⟩, ⟨10, .guard⟩], some (10, true)⟩) rfl ?_; (try simp only [Act.put, List.setIfInBounds_toArray, List.set_cons_succ, List.set_cons_zero])
    refine tkN (i := 14) (oi := ⟨some 93, .load 54 (.tmp 92), 54, "stext.go:244", #[⟨13, .data⟩, ⟨10, .guard⟩], some (10, true)⟩) rfl ?_; (try simp only [Act.put, List.setIfInBounds_toArray, List.set_cons_succ, List.set_cons_zero])
    refine tkN (i := 15) (oi := ⟨some 94, .call { callee := .builtin .len, args := #[.tmp 93], argTypes := #[54] }, 3, "stext.go:244", #[⟨14, .data⟩, ⟨10, .guard⟩], some (10, true)⟩) rfl ?_; (try simp only [Act.put, List.setIfInBounds_toArray, List.set_cons_succ, List.set_cons_zero])
    refine tkN (i := 16) (oi := ⟨some 95, .binOp .eql 3 (.tmp 94) (.const (.int .i64 0)) 3, 4, "stext.go:244", #[⟨15, .data⟩, ⟨10, .guard⟩], some (10, true)⟩) rfl ?_; (try simp only [Act.put, List.setIfInBounds_toArray, List.set_cons_succ, List.set_cons_zero])
    refine tk (i := 17) (oi := ⟨some 96, .pick (.tmp 89) (.tmp 95) (.const (.bool false)), 4, "stext.go:244", #[⟨10, .data⟩, ⟨16, .data⟩], none⟩) rfl ?_; (try simp only [Act.put, List.setIfInBounds_toArray, List.set_cons_succ, List.set_cons_zero])
    refine tk (i := 18) (oi := ⟨some 97, .move (.tmp 96), 4, "stext.go:244", #[⟨17, .data⟩, ⟨10, .chain⟩], none⟩) rfl ?_; (try simp only [Act.put, List.setIfInBounds_toArray, List.set_cons_succ, List.set_cons_zero])
    refine tkN (i := 19) (oi := ⟨some 98, .load 48 (.tmp 5), 48, "stext.go:244", #[⟨18, .guard⟩], some (18, true)⟩) rfl ?_; (try simp only [Act.put, List.setIfInBounds_toArray, List.set_cons_succ, List.set_cons_zero])
    refine tkN (i := 20) (oi := ⟨some 99, .call { callee := .value (.func 20), args := #[.tmp 98], argTypes := #[48] }, 9, "stext.go:244", #[⟨19, .data⟩, ⟨18, .chain⟩, ⟨18, .guard⟩], some (18, true)⟩) rfl ?_; (try simp only [Act.put, List.setIfInBounds_toArray, List.set_cons_succ, List.set_cons_zero])
    refine tkN (i := 21) (oi := ⟨some 100, .move (.tmp 0), 9, "stext.go:244", #[⟨18, .guard⟩, { on := 24, ground := .gcOnly Go.Departure.lateStores }], some (18, true)⟩) rfl ?_; (try simp only [Act.put, List.setIfInBounds_toArray, List.set_cons_succ, List.set_cons_zero])
    refine tkN (i := 22) (oi := ⟨some 101, .binOp .eql 9 (.tmp 99) (.tmp 100) 9, 4, "stext.go:244", #[⟨20, .data⟩, ⟨21, .data⟩, ⟨18, .guard⟩, { on := 24, ground := .gcOnly Go.Departure.lateStores }], some (18, true)⟩) rfl ?_; (try simp only [Act.put, List.setIfInBounds_toArray, List.set_cons_succ, List.set_cons_zero])
    refine tk (i := 23) (oi := ⟨some 102, .pick (.tmp 97) (.tmp 101) (.const (.bool false)), 4, "stext.go:244", #[⟨18, .data⟩, ⟨22, .data⟩, { on := 24, ground := .gcOnly Go.Departure.lateStores }], none⟩) rfl ?_; (try simp only [Act.put, List.setIfInBounds_toArray, List.set_cons_succ, List.set_cons_zero])
    refine wpAnyH_ready (rs := [24]) (by kernel_rfl) (by simp) ?_
    refine AllReadyH.cons (o := ⟨none, .store 48 (.tmp 2) (.tmp 79), 0, "stext.go:244", #[⟨0, .data⟩, ⟨20, .chain⟩, ⟨0, .phase⟩, { on := 1, ground := .textOnly Go.Departure.lateStores }, { on := 2, ground := .textOnly Go.Departure.lateStores }, { on := 3, ground := .textOnly Go.Departure.lateStores }, { on := 4, ground := .textOnly Go.Departure.lateStores }, { on := 5, ground := .textOnly Go.Departure.lateStores }, { on := 6, ground := .textOnly Go.Departure.lateStores }, { on := 7, ground := .textOnly Go.Departure.lateStores }, { on := 8, ground := .textOnly Go.Departure.lateStores }, { on := 9, ground := .textOnly Go.Departure.lateStores }, { on := 10, ground := .textOnly Go.Departure.lateStores }, { on := 11, ground := .textOnly Go.Departure.lateStores }, { on := 12, ground := .textOnly Go.Departure.lateStores }, { on := 13, ground := .textOnly Go.Departure.lateStores }, { on := 14, ground := .textOnly Go.Departure.lateStores }, { on := 15, ground := .textOnly Go.Departure.lateStoresUnsure }, { on := 16, ground := .textOnly Go.Departure.lateStores }, { on := 17, ground := .textOnly Go.Departure.lateStores }, { on := 18, ground := .textOnly Go.Departure.lateStores }, { on := 19, ground := .textOnly Go.Departure.lateStores }, { on := 20, ground := .textOnly Go.Departure.lateStoresUnsure }, { on := 21, ground := .textOnly Go.Departure.lateStores }, { on := 22, ground := .textOnly Go.Departure.lateStores }, { on := 23, ground := .textOnly Go.Departure.lateStores }], none⟩) rfl (fun K hK => ?_) AllReadyH.nil
    (rw [if_pos (by rfl)]; refine wp_store_row 48 (.tmp 2) (.tmp 79) rfl w.heap.size #[.int .i64 k, .int .i64 v1, .int .i64 v2, .int .i64 v3, .int .u64 (v4 : Int), .slice A v5.length c, .slice B v6.length d] rfl rfl 48 #[.int .i64 0, .int .i64 0, .int .i64 0, .int .i64 0, .int .u64 0, .slice none 0 0, .slice none 0 0] VD info_sins rfl (by simp [Value.oneCell']) ?_; have gS := setRow_grown (World.drew W) w.heap.size #[.int .i64 k, .int .i64 v1, .int .i64 v2, .int .i64 v3, .int .u64 (v4 : Int), .slice A v5.length c, .slice B v6.length d]; have SS2 : (fun W' => W'.cell? ⟨Kx, 0, none⟩ = some (.int .i64 k) ∧ W'.cell? ⟨Kx, 1, none⟩ = some (.int .i64 v1) ∧ W'.cell? ⟨Kx, 2, none⟩ = some (.int .i64 v2) ∧ W'.cell? ⟨Kx, 3, none⟩ = some (.int .i64 v3) ∧ W'.cell? ⟨Kx, 4, none⟩ = some (.int .u64 (v4 : Int)) ∧ W'.cell? ⟨Kx, 5, none⟩ = some (.slice A v5.length c) ∧ W'.cell? ⟨Kx, 6, none⟩ = some (.slice B v6.length d) ∧ W'.cell? ⟨N, 0, none⟩ = some (.slice A1 rl6.length c1) ∧ W'.cell? ⟨N, 1, none⟩ = some (.bool false)) ((World.drew W).setRow w.heap.size #[.int .i64 k, .int .i64 v1, .int .i64 v2, .int .i64 v3, .int .u64 (v4 : Int), .slice A v5.length c, .slice B v6.length d]) := ⟨gS.cell t0 (by simp; omega), gS.cell t1 (by simp; omega), gS.cell t2 (by simp; omega), gS.cell t3 (by simp; omega), gS.cell t4 (by simp; omega), gS.cell t5 (by simp; omega), gS.cell t6 (by simp; omega), gS.cell t7 (by simp; omega), gS.cell t8 (by simp; omega)⟩; dsimp only at SS2)
    (try dsimp only)
    refine hK.out _ _ ?_ (fun hHeld1 => ?_)
    · first | trivial | ((try dsimp only); first | assumption | trivial | go_keep)
    clear hK K hHeld0
    (try simp only [Act.put, List.setIfInBounds_toArray, List.set_cons_succ, List.set_cons_zero])
    refine tk (i := 25) (oi := ⟨some 3, .assign (.tmp 102), 4, "stext.go:244", #[⟨23, .data⟩, ⟨24, .chain⟩, ⟨0, .phase⟩, ⟨1, .phase⟩, ⟨2, .phase⟩, ⟨3, .phase⟩, ⟨4, .phase⟩, ⟨5, .phase⟩, ⟨6, .phase⟩, ⟨7, .phase⟩, ⟨8, .phase⟩, ⟨9, .phase⟩, ⟨10, .phase⟩, ⟨11, .phase⟩, ⟨12, .phase⟩, ⟨13, .phase⟩, ⟨14, .phase⟩, ⟨15, .phase⟩, ⟨16, .phase⟩, ⟨17, .phase⟩, ⟨18, .phase⟩, ⟨19, .phase⟩, ⟨20, .phase⟩, ⟨21, .phase⟩, ⟨22, .phase⟩, ⟨23, .phase⟩, ⟨24, .phase⟩], none⟩) rfl ?_; (try simp only [Act.put, List.setIfInBounds_toArray, List.set_cons_succ, List.set_cons_zero])
    refine wpAnyH_done (by kernel_rfl) ?_ _
    (try dsimp only)
    repeat (first | go_values | go_skip | go_guarded | go_step | go_upon)
    have fin := insFin (by omega) (by omega) BEL.out (below_drewN W 1) R5.out R6.out w.heap.size (Nat.le_refl _) (by omega) #[.int .i64 k, .int .i64 v1, .int .i64 v2, .int .i64 v3, .int .u64 (v4 : Int), .slice A v5.length c, .slice B v6.length d]
    refine bodyPost_ret (results_cell_row_tmp rfl _ _ w.heap.size _ #[.int .i64 k, .int .i64 v1, .int .i64 v2, .int .i64 v3, .int .u64 (v4 : Int), .slice A v5.length c, .slice B v6.length d] (0, 0) _ rfl (setRow_heap (World.drew W) w.heap.size #[.int .i64 0, .int .i64 0, .int .i64 0, .int .i64 0, .int .u64 0, .slice none 0 0, .slice none 0 0] _ _ (0, 0) VR) Tryz.underlying48 rfl (by kernel_rfl)) rfl ?_
    obtain rfl := HR.out
    exact ⟨⟨A, c, B, d, rfl, fin.2.1, fin.2.2⟩, fin.1⟩
  rcases hk0 : decide (0 ≤ k) with _ | _
  · have k0 : ¬ (0 : Int) ≤ k := by simpa using hk0
    have k1 : decide ((0 : Int) ≤ k) = false := hk0
    have HR : Hid (R = ((⟨k, v1, v2, v3, v4, v5, v6⟩ : St.Ins), false)) := Lib.hid (by rw [HR.out, hk0]; rfl)
    clear hk0
    have SS : (fun W' => W'.cell? ⟨Kx, 0, none⟩ = some (.int .i64 k) ∧ W'.cell? ⟨Kx, 1, none⟩ = some (.int .i64 v1) ∧ W'.cell? ⟨Kx, 2, none⟩ = some (.int .i64 v2) ∧ W'.cell? ⟨Kx, 3, none⟩ = some (.int .i64 v3) ∧ W'.cell? ⟨Kx, 4, none⟩ = some (.int .u64 (v4 : Int)) ∧ W'.cell? ⟨Kx, 5, none⟩ = some (.slice A v5.length c) ∧ W'.cell? ⟨Kx, 6, none⟩ = some (.slice B v6.length d) ∧ W'.cell? ⟨N, 0, none⟩ = some (.slice A1 rl6.length c1) ∧ W'.cell? ⟨N, 1, none⟩ = some (.bool true)) (World.drew W) := ⟨c0, c1_, c2_, c3_, c4_, c5_, c6_, p0, p1⟩
    dsimp only at SS
    have SSc := SS
    obtain ⟨t0, t1, t2, t3, t4, t5, t6, t7, t8⟩ := SSc
    have VD : (World.drew W).heap[w.heap.size]? = some (.cells #[.int .i64 0, .int .i64 0, .int .i64 0, .int .i64 0, .int .u64 0, .slice none 0 0, .slice none 0 0] 48 (0, 0)) := VR
    refine wp_region_held_drew (S := (fun W' => W'.cell? ⟨Kx, 0, none⟩ = some (.int .i64 k) ∧ W'.cell? ⟨Kx, 1, none⟩ = some (.int .i64 v1) ∧ W'.cell? ⟨Kx, 2, none⟩ = some (.int .i64 v2) ∧ W'.cell? ⟨Kx, 3, none⟩ = some (.int .i64 v3) ∧ W'.cell? ⟨Kx, 4, none⟩ = some (.int .u64 (v4 : Int)) ∧ W'.cell? ⟨Kx, 5, none⟩ = some (.slice A v5.length c) ∧ W'.cell? ⟨Kx, 6, none⟩ = some (.slice B v6.length d) ∧ W'.cell? ⟨N, 0, none⟩ = some (.slice A1 rl6.length c1) ∧ W'.cell? ⟨N, 1, none⟩ = some (.bool true))) (by kernel_rfl) ?_ (fun hHeld0 => ?_)
    · first | assumption | go_keep
    refine tk (i := 0) (oi := ⟨some 79, .load 48 (.tmp 5), 48, "stext.go:244", #[], none⟩) rfl ?_; (try simp only [Act.put, List.setIfInBounds_toArray, List.set_cons_succ, List.set_cons_zero])
    refine tk (i := 1) (oi := ⟨some 80, .move (.tmp 4), 130, "stext.go:244", #[], none⟩) rfl ?_; (try simp only [Act.put, List.setIfInBounds_toArray, List.set_cons_succ, List.set_cons_zero])
    refine tk (i := 2) (oi := ⟨some 81, .nilCheck (.tmp 80), 0, "stext.go:244", #[⟨1, .data⟩], none⟩) rfl ?_; (try simp only [Act.put, List.setIfInBounds_toArray, List.set_cons_succ, List.set_cons_zero])
    refine tk (i := 3) (oi := ⟨some 82, .fieldAddr 132 (.tmp 81) 1, 0, "stext.go:244", #[⟨2, .data⟩], none⟩) rfl ?_; (try simp only [Act.put, List.setIfInBounds_toArray, List.set_cons_succ, List.set_cons_zero])
    refine tk (i := 4) (oi := ⟨some 83, .load 4 (.tmp 82), 4, "stext.go:244", #[⟨3, .data⟩], none⟩) rfl ?_; (try simp only [Act.put, List.setIfInBounds_toArray, List.set_cons_succ, List.set_cons_zero])
    refine tk (i := 5) (oi := ⟨some 84, .move (.tmp 83), 4, "stext.go:244", #[⟨4, .data⟩], none⟩) rfl ?_; (try simp only [Act.put, List.setIfInBounds_toArray, List.set_cons_succ, List.set_cons_zero])
    refine tk (i := 6) (oi := ⟨some 85, .fieldAddr 48 (.tmp 5) 0, 0, "stext.go:244", #[⟨5, .guard⟩], some (5, true)⟩) rfl ?_; (try simp only [Act.put, List.setIfInBounds_toArray, List.set_cons_succ, List.set_cons_zero])
    refine tk (i := 7) (oi := ⟨some 86, .load 3 (.tmp 85), 3, "stext.go:244", #[⟨6, .data⟩, ⟨5, .guard⟩], some (5, true)⟩) rfl ?_; (try simp only [Act.put, List.setIfInBounds_toArray, List.set_cons_succ, List.set_cons_zero])
    refine tk (i := 8) (oi := ⟨some 87, .binOp .geq 3 (.tmp 86) (.const (.int .i64 0)) 3, 4, "stext.go:244", #[⟨7, .data⟩, ⟨5, .guard⟩], some (5, true)⟩) rfl ?_; (try simp only [Act.put, List.setIfInBounds_toArray, List.set_cons_succ, List.set_cons_zero])
    refine tk (i := 9) (oi := ⟨some 88, .pick (.tmp 84) (.tmp 87) (.const (.bool false)), 4, "stext.go:244", #[⟨5, .data⟩, ⟨8, .data⟩], none⟩) rfl ?_; (try simp only [Act.put, List.setIfInBounds_toArray, List.set_cons_succ, List.set_cons_zero])
    refine tk (i := 10) (oi := ⟨some 89, .move (.tmp 88), 4, "stext.go:244", #[⟨9, .data⟩, ⟨5, .chain⟩], none⟩) rfl ?_; (try simp only [Act.put, List.setIfInBounds_toArray, List.set_cons_succ, List.set_cons_zero])
    refine tkN (i := 11) (oi := ⟨some 90, .move (.tmp 4), 130, "stext.go:244", #[⟨10, .guard⟩], some (10, true)⟩) rfl ?_; (try simp only [Act.put, List.setIfInBounds_toArray, List.set_cons_succ, List.set_cons_zero])
    refine tkN (i := 12) (oi := ⟨some 91, .nilCheck (.tmp 90), 0, "stext.go:244", #[⟨11, .data⟩, ⟨10, .guard⟩], some (10, true)⟩) rfl ?_; (try simp only [Act.put, List.setIfInBounds_toArray, List.set_cons_succ, List.set_cons_zero])
    refine tkN (i := 13) (oi := ⟨some 92, .fieldAddr 132 (.tmp 91) 0, 0, "stext.go:244", #[⟨12, .data⟩, ⟨10, .guard⟩], some (10, true)⟩) rfl ?_; (try simp only [Act.put, List.setIfInBounds_toArray, List.set_cons_succ, List.set_cons_zero])
    refine tkN (i := 14) (oi := ⟨some 93, .load 54 (.tmp 92), 54, "stext.go:244", #[⟨13, .data⟩, ⟨10, .guard⟩], some (10, true)⟩) rfl ?_; (try simp only [Act.put, List.setIfInBounds_toArray, List.set_cons_succ, List.set_cons_zero])
    refine tkN (i := 15) (oi := ⟨some 94, .call { callee := .builtin .len, args := #[.tmp 93], argTypes := #[54] }, 3, "stext.go:244", #[⟨14, .data⟩, ⟨10, .guard⟩], some (10, true)⟩) rfl ?_; (try simp only [Act.put, List.setIfInBounds_toArray, List.set_cons_succ, List.set_cons_zero])
    refine tkN (i := 16) (oi := ⟨some 95, .binOp .eql 3 (.tmp 94) (.const (.int .i64 0)) 3, 4, "stext.go:244", #[⟨15, .data⟩, ⟨10, .guard⟩], some (10, true)⟩) rfl ?_; (try simp only [Act.put, List.setIfInBounds_toArray, List.set_cons_succ, List.set_cons_zero])
    refine tk (i := 17) (oi := ⟨some 96, .pick (.tmp 89) (.tmp 95) (.const (.bool false)), 4, "stext.go:244", #[⟨10, .data⟩, ⟨16, .data⟩], none⟩) rfl ?_; (try simp only [Act.put, List.setIfInBounds_toArray, List.set_cons_succ, List.set_cons_zero])
    refine tk (i := 18) (oi := ⟨some 97, .move (.tmp 96), 4, "stext.go:244", #[⟨17, .data⟩, ⟨10, .chain⟩], none⟩) rfl ?_; (try simp only [Act.put, List.setIfInBounds_toArray, List.set_cons_succ, List.set_cons_zero])
    refine tkN (i := 19) (oi := ⟨some 98, .load 48 (.tmp 5), 48, "stext.go:244", #[⟨18, .guard⟩], some (18, true)⟩) rfl ?_; (try simp only [Act.put, List.setIfInBounds_toArray, List.set_cons_succ, List.set_cons_zero])
    refine tkN (i := 20) (oi := ⟨some 99, .call { callee := .value (.func 20), args := #[.tmp 98], argTypes := #[48] }, 9, "stext.go:244", #[⟨19, .data⟩, ⟨18, .chain⟩, ⟨18, .guard⟩], some (18, true)⟩) rfl ?_; (try simp only [Act.put, List.setIfInBounds_toArray, List.set_cons_succ, List.set_cons_zero])
    refine tkN (i := 21) (oi := ⟨some 100, .move (.tmp 0), 9, "stext.go:244", #[⟨18, .guard⟩, { on := 24, ground := .gcOnly Go.Departure.lateStores }], some (18, true)⟩) rfl ?_; (try simp only [Act.put, List.setIfInBounds_toArray, List.set_cons_succ, List.set_cons_zero])
    refine tkN (i := 22) (oi := ⟨some 101, .binOp .eql 9 (.tmp 99) (.tmp 100) 9, 4, "stext.go:244", #[⟨20, .data⟩, ⟨21, .data⟩, ⟨18, .guard⟩, { on := 24, ground := .gcOnly Go.Departure.lateStores }], some (18, true)⟩) rfl ?_; (try simp only [Act.put, List.setIfInBounds_toArray, List.set_cons_succ, List.set_cons_zero])
    refine tk (i := 23) (oi := ⟨some 102, .pick (.tmp 97) (.tmp 101) (.const (.bool false)), 4, "stext.go:244", #[⟨18, .data⟩, ⟨22, .data⟩, { on := 24, ground := .gcOnly Go.Departure.lateStores }], none⟩) rfl ?_; (try simp only [Act.put, List.setIfInBounds_toArray, List.set_cons_succ, List.set_cons_zero])
    refine wpAnyH_ready (rs := [24]) (by kernel_rfl) (by simp) ?_
    refine AllReadyH.cons (o := ⟨none, .store 48 (.tmp 2) (.tmp 79), 0, "stext.go:244", #[⟨0, .data⟩, ⟨20, .chain⟩, ⟨0, .phase⟩, { on := 1, ground := .textOnly Go.Departure.lateStores }, { on := 2, ground := .textOnly Go.Departure.lateStores }, { on := 3, ground := .textOnly Go.Departure.lateStores }, { on := 4, ground := .textOnly Go.Departure.lateStores }, { on := 5, ground := .textOnly Go.Departure.lateStores }, { on := 6, ground := .textOnly Go.Departure.lateStores }, { on := 7, ground := .textOnly Go.Departure.lateStores }, { on := 8, ground := .textOnly Go.Departure.lateStores }, { on := 9, ground := .textOnly Go.Departure.lateStores }, { on := 10, ground := .textOnly Go.Departure.lateStores }, { on := 11, ground := .textOnly Go.Departure.lateStores }, { on := 12, ground := .textOnly Go.Departure.lateStores }, { on := 13, ground := .textOnly Go.Departure.lateStores }, { on := 14, ground := .textOnly Go.Departure.lateStores }, { on := 15, ground := .textOnly Go.Departure.lateStoresUnsure }, { on := 16, ground := .textOnly Go.Departure.lateStores }, { on := 17, ground := .textOnly Go.Departure.lateStores }, { on := 18, ground := .textOnly Go.Departure.lateStores }, { on := 19, ground := .textOnly Go.Departure.lateStores }, { on := 20, ground := .textOnly Go.Departure.lateStoresUnsure }, { on := 21, ground := .textOnly Go.Departure.lateStores }, { on := 22, ground := .textOnly Go.Departure.lateStores }, { on := 23, ground := .textOnly Go.Departure.lateStores }], none⟩) rfl (fun K hK => ?_) AllReadyH.nil
    (rw [if_pos (by rfl)]; refine wp_store_row 48 (.tmp 2) (.tmp 79) rfl w.heap.size #[.int .i64 k, .int .i64 v1, .int .i64 v2, .int .i64 v3, .int .u64 (v4 : Int), .slice A v5.length c, .slice B v6.length d] rfl rfl 48 #[.int .i64 0, .int .i64 0, .int .i64 0, .int .i64 0, .int .u64 0, .slice none 0 0, .slice none 0 0] VD info_sins rfl (by simp [Value.oneCell']) ?_; have gS := setRow_grown (World.drew W) w.heap.size #[.int .i64 k, .int .i64 v1, .int .i64 v2, .int .i64 v3, .int .u64 (v4 : Int), .slice A v5.length c, .slice B v6.length d]; have SS2 : (fun W' => W'.cell? ⟨Kx, 0, none⟩ = some (.int .i64 k) ∧ W'.cell? ⟨Kx, 1, none⟩ = some (.int .i64 v1) ∧ W'.cell? ⟨Kx, 2, none⟩ = some (.int .i64 v2) ∧ W'.cell? ⟨Kx, 3, none⟩ = some (.int .i64 v3) ∧ W'.cell? ⟨Kx, 4, none⟩ = some (.int .u64 (v4 : Int)) ∧ W'.cell? ⟨Kx, 5, none⟩ = some (.slice A v5.length c) ∧ W'.cell? ⟨Kx, 6, none⟩ = some (.slice B v6.length d) ∧ W'.cell? ⟨N, 0, none⟩ = some (.slice A1 rl6.length c1) ∧ W'.cell? ⟨N, 1, none⟩ = some (.bool true)) ((World.drew W).setRow w.heap.size #[.int .i64 k, .int .i64 v1, .int .i64 v2, .int .i64 v3, .int .u64 (v4 : Int), .slice A v5.length c, .slice B v6.length d]) := ⟨gS.cell t0 (by simp; omega), gS.cell t1 (by simp; omega), gS.cell t2 (by simp; omega), gS.cell t3 (by simp; omega), gS.cell t4 (by simp; omega), gS.cell t5 (by simp; omega), gS.cell t6 (by simp; omega), gS.cell t7 (by simp; omega), gS.cell t8 (by simp; omega)⟩; dsimp only at SS2)
    (try dsimp only)
    refine hK.out _ _ ?_ (fun hHeld1 => ?_)
    · first | trivial | ((try dsimp only); first | assumption | trivial | go_keep)
    clear hK K hHeld0
    (try simp only [Act.put, List.setIfInBounds_toArray, List.set_cons_succ, List.set_cons_zero])
    refine tk (i := 25) (oi := ⟨some 3, .assign (.tmp 102), 4, "stext.go:244", #[⟨23, .data⟩, ⟨24, .chain⟩, ⟨0, .phase⟩, ⟨1, .phase⟩, ⟨2, .phase⟩, ⟨3, .phase⟩, ⟨4, .phase⟩, ⟨5, .phase⟩, ⟨6, .phase⟩, ⟨7, .phase⟩, ⟨8, .phase⟩, ⟨9, .phase⟩, ⟨10, .phase⟩, ⟨11, .phase⟩, ⟨12, .phase⟩, ⟨13, .phase⟩, ⟨14, .phase⟩, ⟨15, .phase⟩, ⟨16, .phase⟩, ⟨17, .phase⟩, ⟨18, .phase⟩, ⟨19, .phase⟩, ⟨20, .phase⟩, ⟨21, .phase⟩, ⟨22, .phase⟩, ⟨23, .phase⟩, ⟨24, .phase⟩], none⟩) rfl ?_; (try simp only [Act.put, List.setIfInBounds_toArray, List.set_cons_succ, List.set_cons_zero])
    refine wpAnyH_done (by kernel_rfl) ?_ _
    (try dsimp only)
    repeat (first | go_values | go_skip | go_guarded | go_step | go_upon)
    have fin := insFin (by omega) (by omega) BEL.out (below_drewN W 1) R5.out R6.out w.heap.size (Nat.le_refl _) (by omega) #[.int .i64 k, .int .i64 v1, .int .i64 v2, .int .i64 v3, .int .u64 (v4 : Int), .slice A v5.length c, .slice B v6.length d]
    refine bodyPost_ret (results_cell_row_tmp rfl _ _ w.heap.size _ #[.int .i64 k, .int .i64 v1, .int .i64 v2, .int .i64 v3, .int .u64 (v4 : Int), .slice A v5.length c, .slice B v6.length d] (0, 0) _ rfl (setRow_heap (World.drew W) w.heap.size #[.int .i64 0, .int .i64 0, .int .i64 0, .int .i64 0, .int .u64 0, .slice none 0 0, .slice none 0 0] _ _ (0, 0) VR) Tryz.underlying48 rfl (by kernel_rfl)) rfl ?_
    obtain rfl := HR.out
    exact ⟨⟨A, c, B, d, rfl, fin.2.1, fin.2.2⟩, fin.1⟩
  have k0 : (0 : Int) ≤ k := by simpa using hk0
  rcases rl6 with _ | ⟨u, rl6⟩
  · by_cases he : St.insO ⟨k, v1, v2, v3, v4, v5, v6⟩ = s
    · have HR : Hid (R = ((⟨k, v1, v2, v3, v4, v5, v6⟩ : St.Ins), true)) := Lib.hid (by rw [HR.out, hk0, he]; simp)
      rw [he] at HIns
      clear hk0 he
      have SS : (fun W' => W'.cell? ⟨Kx, 0, none⟩ = some (.int .i64 k) ∧ W'.cell? ⟨Kx, 1, none⟩ = some (.int .i64 v1) ∧ W'.cell? ⟨Kx, 2, none⟩ = some (.int .i64 v2) ∧ W'.cell? ⟨Kx, 3, none⟩ = some (.int .i64 v3) ∧ W'.cell? ⟨Kx, 4, none⟩ = some (.int .u64 (v4 : Int)) ∧ W'.cell? ⟨Kx, 5, none⟩ = some (.slice A v5.length c) ∧ W'.cell? ⟨Kx, 6, none⟩ = some (.slice B v6.length d) ∧ W'.cell? ⟨N, 0, none⟩ = some (.slice A1 0 c1) ∧ W'.cell? ⟨N, 1, none⟩ = some (.bool true)) (World.drew W) := ⟨c0, c1_, c2_, c3_, c4_, c5_, c6_, p0, p1⟩
      dsimp only at SS
      have SSc := SS
      obtain ⟨t0, t1, t2, t3, t4, t5, t6, t7, t8⟩ := SSc
      have VD : (World.drew W).heap[w.heap.size]? = some (.cells #[.int .i64 0, .int .i64 0, .int .i64 0, .int .i64 0, .int .u64 0, .slice none 0 0, .slice none 0 0] 48 (0, 0)) := VR
      refine wp_region_held_drew (S := (fun W' => W'.cell? ⟨Kx, 0, none⟩ = some (.int .i64 k) ∧ W'.cell? ⟨Kx, 1, none⟩ = some (.int .i64 v1) ∧ W'.cell? ⟨Kx, 2, none⟩ = some (.int .i64 v2) ∧ W'.cell? ⟨Kx, 3, none⟩ = some (.int .i64 v3) ∧ W'.cell? ⟨Kx, 4, none⟩ = some (.int .u64 (v4 : Int)) ∧ W'.cell? ⟨Kx, 5, none⟩ = some (.slice A v5.length c) ∧ W'.cell? ⟨Kx, 6, none⟩ = some (.slice B v6.length d) ∧ W'.cell? ⟨N, 0, none⟩ = some (.slice A1 0 c1) ∧ W'.cell? ⟨N, 1, none⟩ = some (.bool true))) (by kernel_rfl) ?_ (fun hHeld0 => ?_)
      · first | assumption | go_keep
      refine tk (i := 0) (oi := ⟨some 79, .load 48 (.tmp 5), 48, "stext.go:244", #[], none⟩) rfl ?_; (try simp only [Act.put, List.setIfInBounds_toArray, List.set_cons_succ, List.set_cons_zero])
      refine tk (i := 1) (oi := ⟨some 80, .move (.tmp 4), 130, "stext.go:244", #[], none⟩) rfl ?_; (try simp only [Act.put, List.setIfInBounds_toArray, List.set_cons_succ, List.set_cons_zero])
      refine tk (i := 2) (oi := ⟨some 81, .nilCheck (.tmp 80), 0, "stext.go:244", #[⟨1, .data⟩], none⟩) rfl ?_; (try simp only [Act.put, List.setIfInBounds_toArray, List.set_cons_succ, List.set_cons_zero])
      refine tk (i := 3) (oi := ⟨some 82, .fieldAddr 132 (.tmp 81) 1, 0, "stext.go:244", #[⟨2, .data⟩], none⟩) rfl ?_; (try simp only [Act.put, List.setIfInBounds_toArray, List.set_cons_succ, List.set_cons_zero])
      refine tk (i := 4) (oi := ⟨some 83, .load 4 (.tmp 82), 4, "stext.go:244", #[⟨3, .data⟩], none⟩) rfl ?_; (try simp only [Act.put, List.setIfInBounds_toArray, List.set_cons_succ, List.set_cons_zero])
      refine tk (i := 5) (oi := ⟨some 84, .move (.tmp 83), 4, "stext.go:244", #[⟨4, .data⟩], none⟩) rfl ?_; (try simp only [Act.put, List.setIfInBounds_toArray, List.set_cons_succ, List.set_cons_zero])
      refine tk (i := 6) (oi := ⟨some 85, .fieldAddr 48 (.tmp 5) 0, 0, "stext.go:244", #[⟨5, .guard⟩], some (5, true)⟩) rfl ?_; (try simp only [Act.put, List.setIfInBounds_toArray, List.set_cons_succ, List.set_cons_zero])
      refine tk (i := 7) (oi := ⟨some 86, .load 3 (.tmp 85), 3, "stext.go:244", #[⟨6, .data⟩, ⟨5, .guard⟩], some (5, true)⟩) rfl ?_; (try simp only [Act.put, List.setIfInBounds_toArray, List.set_cons_succ, List.set_cons_zero])
      refine tk (i := 8) (oi := ⟨some 87, .binOp .geq 3 (.tmp 86) (.const (.int .i64 0)) 3, 4, "stext.go:244", #[⟨7, .data⟩, ⟨5, .guard⟩], some (5, true)⟩) rfl ?_; (try simp only [Act.put, List.setIfInBounds_toArray, List.set_cons_succ, List.set_cons_zero])
      refine tk (i := 9) (oi := ⟨some 88, .pick (.tmp 84) (.tmp 87) (.const (.bool false)), 4, "stext.go:244", #[⟨5, .data⟩, ⟨8, .data⟩], none⟩) rfl ?_; (try simp only [Act.put, List.setIfInBounds_toArray, List.set_cons_succ, List.set_cons_zero])
      refine tk (i := 10) (oi := ⟨some 89, .move (.tmp 88), 4, "stext.go:244", #[⟨9, .data⟩, ⟨5, .chain⟩], none⟩) rfl ?_; (try simp only [Act.put, List.setIfInBounds_toArray, List.set_cons_succ, List.set_cons_zero])
      refine tk (i := 11) (oi := ⟨some 90, .move (.tmp 4), 130, "stext.go:244", #[⟨10, .guard⟩], some (10, true)⟩) rfl ?_; (try simp only [Act.put, List.setIfInBounds_toArray, List.set_cons_succ, List.set_cons_zero])
      refine tk (i := 12) (oi := ⟨some 91, .nilCheck (.tmp 90), 0, "stext.go:244", #[⟨11, .data⟩, ⟨10, .guard⟩], some (10, true)⟩) rfl ?_; (try simp only [Act.put, List.setIfInBounds_toArray, List.set_cons_succ, List.set_cons_zero])
      refine tk (i := 13) (oi := ⟨some 92, .fieldAddr 132 (.tmp 91) 0, 0, "stext.go:244", #[⟨12, .data⟩, ⟨10, .guard⟩], some (10, true)⟩) rfl ?_; (try simp only [Act.put, List.setIfInBounds_toArray, List.set_cons_succ, List.set_cons_zero])
      refine tk (i := 14) (oi := ⟨some 93, .load 54 (.tmp 92), 54, "stext.go:244", #[⟨13, .data⟩, ⟨10, .guard⟩], some (10, true)⟩) rfl ?_; (try simp only [Act.put, List.setIfInBounds_toArray, List.set_cons_succ, List.set_cons_zero])
      refine tk (i := 15) (oi := ⟨some 94, .call { callee := .builtin .len, args := #[.tmp 93], argTypes := #[54] }, 3, "stext.go:244", #[⟨14, .data⟩, ⟨10, .guard⟩], some (10, true)⟩) rfl ?_; (try simp only [Act.put, List.setIfInBounds_toArray, List.set_cons_succ, List.set_cons_zero])
      refine tk (i := 16) (oi := ⟨some 95, .binOp .eql 3 (.tmp 94) (.const (.int .i64 0)) 3, 4, "stext.go:244", #[⟨15, .data⟩, ⟨10, .guard⟩], some (10, true)⟩) rfl ?_; (try simp only [Act.put, List.setIfInBounds_toArray, List.set_cons_succ, List.set_cons_zero])
      refine tk (i := 17) (oi := ⟨some 96, .pick (.tmp 89) (.tmp 95) (.const (.bool false)), 4, "stext.go:244", #[⟨10, .data⟩, ⟨16, .data⟩], none⟩) rfl ?_; (try simp only [Act.put, List.setIfInBounds_toArray, List.set_cons_succ, List.set_cons_zero])
      refine tk (i := 18) (oi := ⟨some 97, .move (.tmp 96), 4, "stext.go:244", #[⟨17, .data⟩, ⟨10, .chain⟩], none⟩) rfl ?_; (try simp only [Act.put, List.setIfInBounds_toArray, List.set_cons_succ, List.set_cons_zero])
      refine tk (i := 19) (oi := ⟨some 98, .load 48 (.tmp 5), 48, "stext.go:244", #[⟨18, .guard⟩], some (18, true)⟩) rfl ?_; (try simp only [Act.put, List.setIfInBounds_toArray, List.set_cons_succ, List.set_cons_zero])
      refine tk (i := 21) (oi := ⟨some 100, .move (.tmp 0), 9, "stext.go:244", #[⟨18, .guard⟩, { on := 24, ground := .gcOnly Go.Departure.lateStores }], some (18, true)⟩) rfl ?_; (try simp only [Act.put, List.setIfInBounds_toArray, List.set_cons_succ, List.set_cons_zero])
      refine wpAnyH_ready (rs := [20]) (by kernel_rfl) (by simp) ?_
      refine AllReadyH.cons (o := ⟨some 99, .call { callee := .value (.func 20), args := #[.tmp 98], argTypes := #[48] }, 9, "stext.go:244", #[⟨19, .data⟩, ⟨18, .chain⟩, ⟨18, .guard⟩], some (18, true)⟩) rfl (fun K hK => ?_) AllReadyH.nil
      go_simp
      (refine (HIns.out (World.drew W) (show RdS (World.drew W) _ A 1 encZ v5 from R5.out.1) (show RdS (World.drew W) _ B 1 encZ v6 from R6.out.1) ((HG.out.below BEL.out).below (below_drewN W 1))).mono ?_; rintro e w5 ⟨rfl, hb5⟩; have U5 := Lib.hid ((below_drewN W 1).trans (hb5.mono (Nat.le_refl _))); have V5 := var_keep VR U5.out; have kp := Below.keep U5.out (fun _ => True); have d0 := kp _ _ trivial c0; have d1 := kp _ _ trivial c1_; have d2 := kp _ _ trivial c2_; have d3 := kp _ _ trivial c3_; have d4 := kp _ _ trivial c4_; have d5 := kp _ _ trivial c5_; have d6 := kp _ _ trivial c6_; have d7 := kp _ _ trivial p0; have d8 := kp _ _ trivial p1; clear kp hb5; have SS5 : (fun W' => W'.cell? ⟨Kx, 0, none⟩ = some (.int .i64 k) ∧ W'.cell? ⟨Kx, 1, none⟩ = some (.int .i64 v1) ∧ W'.cell? ⟨Kx, 2, none⟩ = some (.int .i64 v2) ∧ W'.cell? ⟨Kx, 3, none⟩ = some (.int .i64 v3) ∧ W'.cell? ⟨Kx, 4, none⟩ = some (.int .u64 (v4 : Int)) ∧ W'.cell? ⟨Kx, 5, none⟩ = some (.slice A v5.length c) ∧ W'.cell? ⟨Kx, 6, none⟩ = some (.slice B v6.length d) ∧ W'.cell? ⟨N, 0, none⟩ = some (.slice A1 0 c1) ∧ W'.cell? ⟨N, 1, none⟩ = some (.bool true)) w5 := ⟨d0, d1, d2, d3, d4, d5, d6, d7, d8⟩; dsimp only at SS5)
      (try dsimp only)
      refine hK.out _ _ ?_ (fun hHeld1 => ?_)
      · first | trivial | ((try dsimp only); first | assumption | trivial | go_keep)
      clear hK K hHeld0
      (try simp only [Act.put, List.setIfInBounds_toArray, List.set_cons_succ, List.set_cons_zero])
      refine tk (i := 22) (oi := ⟨some 101, .binOp .eql 9 (.tmp 99) (.tmp 100) 9, 4, "stext.go:244", #[⟨20, .data⟩, ⟨21, .data⟩, ⟨18, .guard⟩, { on := 24, ground := .gcOnly Go.Departure.lateStores }], some (18, true)⟩) rfl ?_; (try simp only [Act.put, List.setIfInBounds_toArray, List.set_cons_succ, List.set_cons_zero])
      refine tk (i := 23) (oi := ⟨some 102, .pick (.tmp 97) (.tmp 101) (.const (.bool false)), 4, "stext.go:244", #[⟨18, .data⟩, ⟨22, .data⟩, { on := 24, ground := .gcOnly Go.Departure.lateStores }], none⟩) rfl ?_; (try simp only [Act.put, List.setIfInBounds_toArray, List.set_cons_succ, List.set_cons_zero])
      refine wpAnyH_ready (rs := [24]) (by kernel_rfl) (by simp) ?_
      refine AllReadyH.cons (o := ⟨none, .store 48 (.tmp 2) (.tmp 79), 0, "stext.go:244", #[⟨0, .data⟩, ⟨20, .chain⟩, ⟨0, .phase⟩, { on := 1, ground := .textOnly Go.Departure.lateStores }, { on := 2, ground := .textOnly Go.Departure.lateStores }, { on := 3, ground := .textOnly Go.Departure.lateStores }, { on := 4, ground := .textOnly Go.Departure.lateStores }, { on := 5, ground := .textOnly Go.Departure.lateStores }, { on := 6, ground := .textOnly Go.Departure.lateStores }, { on := 7, ground := .textOnly Go.Departure.lateStores }, { on := 8, ground := .textOnly Go.Departure.lateStores }, { on := 9, ground := .textOnly Go.Departure.lateStores }, { on := 10, ground := .textOnly Go.Departure.lateStores }, { on := 11, ground := .textOnly Go.Departure.lateStores }, { on := 12, ground := .textOnly Go.Departure.lateStores }, { on := 13, ground := .textOnly Go.Departure.lateStores }, { on := 14, ground := .textOnly Go.Departure.lateStores }, { on := 15, ground := .textOnly Go.Departure.lateStoresUnsure }, { on := 16, ground := .textOnly Go.Departure.lateStores }, { on := 17, ground := .textOnly Go.Departure.lateStores }, { on := 18, ground := .textOnly Go.Departure.lateStores }, { on := 19, ground := .textOnly Go.Departure.lateStores }, { on := 20, ground := .textOnly Go.Departure.lateStoresUnsure }, { on := 21, ground := .textOnly Go.Departure.lateStores }, { on := 22, ground := .textOnly Go.Departure.lateStores }, { on := 23, ground := .textOnly Go.Departure.lateStores }], none⟩) rfl (fun K hK => ?_) AllReadyH.nil
      (rw [if_pos (by rfl)]; refine wp_store_row 48 (.tmp 2) (.tmp 79) rfl w.heap.size #[.int .i64 k, .int .i64 v1, .int .i64 v2, .int .i64 v3, .int .u64 (v4 : Int), .slice A v5.length c, .slice B v6.length d] rfl rfl 48 #[.int .i64 0, .int .i64 0, .int .i64 0, .int .i64 0, .int .u64 0, .slice none 0 0, .slice none 0 0] V5 info_sins rfl (by simp [Value.oneCell']) ?_; have gS := setRow_grown w5 w.heap.size #[.int .i64 k, .int .i64 v1, .int .i64 v2, .int .i64 v3, .int .u64 (v4 : Int), .slice A v5.length c, .slice B v6.length d]; have SS2 : (fun W' => W'.cell? ⟨Kx, 0, none⟩ = some (.int .i64 k) ∧ W'.cell? ⟨Kx, 1, none⟩ = some (.int .i64 v1) ∧ W'.cell? ⟨Kx, 2, none⟩ = some (.int .i64 v2) ∧ W'.cell? ⟨Kx, 3, none⟩ = some (.int .i64 v3) ∧ W'.cell? ⟨Kx, 4, none⟩ = some (.int .u64 (v4 : Int)) ∧ W'.cell? ⟨Kx, 5, none⟩ = some (.slice A v5.length c) ∧ W'.cell? ⟨Kx, 6, none⟩ = some (.slice B v6.length d) ∧ W'.cell? ⟨N, 0, none⟩ = some (.slice A1 0 c1) ∧ W'.cell? ⟨N, 1, none⟩ = some (.bool true)) (w5.setRow w.heap.size #[.int .i64 k, .int .i64 v1, .int .i64 v2, .int .i64 v3, .int .u64 (v4 : Int), .slice A v5.length c, .slice B v6.length d]) := ⟨gS.cell d0 (by simp; omega), gS.cell d1 (by simp; omega), gS.cell d2 (by simp; omega), gS.cell d3 (by simp; omega), gS.cell d4 (by simp; omega), gS.cell d5 (by simp; omega), gS.cell d6 (by simp; omega), gS.cell d7 (by simp; omega), gS.cell d8 (by simp; omega)⟩; dsimp only at SS2)
      (try dsimp only)
      refine hK.out _ _ ?_ (fun hHeld2 => ?_)
      · first | trivial | ((try dsimp only); first | assumption | trivial | go_keep)
      clear hK K hHeld1
      (try simp only [Act.put, List.setIfInBounds_toArray, List.set_cons_succ, List.set_cons_zero])
      refine tk (i := 25) (oi := ⟨some 3, .assign (.tmp 102), 4, "stext.go:244", #[⟨23, .data⟩, ⟨24, .chain⟩, ⟨0, .phase⟩, ⟨1, .phase⟩, ⟨2, .phase⟩, ⟨3, .phase⟩, ⟨4, .phase⟩, ⟨5, .phase⟩, ⟨6, .phase⟩, ⟨7, .phase⟩, ⟨8, .phase⟩, ⟨9, .phase⟩, ⟨10, .phase⟩, ⟨11, .phase⟩, ⟨12, .phase⟩, ⟨13, .phase⟩, ⟨14, .phase⟩, ⟨15, .phase⟩, ⟨16, .phase⟩, ⟨17, .phase⟩, ⟨18, .phase⟩, ⟨19, .phase⟩, ⟨20, .phase⟩, ⟨21, .phase⟩, ⟨22, .phase⟩, ⟨23, .phase⟩, ⟨24, .phase⟩], none⟩) rfl ?_; (try simp only [Act.put, List.setIfInBounds_toArray, List.set_cons_succ, List.set_cons_zero])
      refine wpAnyH_done (by kernel_rfl) ?_ _
      (try dsimp only)
      repeat (first | go_values | go_skip | go_guarded | go_step | go_upon)
      have fin := insFin (by omega) (by omega) BEL.out U5.out R5.out R6.out w.heap.size (Nat.le_refl _) (by omega) #[.int .i64 k, .int .i64 v1, .int .i64 v2, .int .i64 v3, .int .u64 (v4 : Int), .slice A v5.length c, .slice B v6.length d]
      refine bodyPost_ret (results_cell_row_tmp rfl _ _ w.heap.size _ #[.int .i64 k, .int .i64 v1, .int .i64 v2, .int .i64 v3, .int .u64 (v4 : Int), .slice A v5.length c, .slice B v6.length d] (0, 0) _ rfl (setRow_heap w5 w.heap.size #[.int .i64 0, .int .i64 0, .int .i64 0, .int .i64 0, .int .u64 0, .slice none 0 0, .slice none 0 0] _ _ (0, 0) V5) Tryz.underlying48 rfl (by kernel_rfl)) rfl ?_
      obtain rfl := HR.out
      exact ⟨⟨A, c, B, d, rfl, fin.2.1, fin.2.2⟩, fin.1⟩
    · have hq2 : (St.insO ⟨k, v1, v2, v3, v4, v5, v6⟩ == s) = false := by simpa using he
      have HR : Hid (R = ((⟨k, v1, v2, v3, v4, v5, v6⟩ : St.Ins), false)) := Lib.hid (by rw [HR.out, hk0, hq2]; rfl)
      obtain ⟨J, hJ⟩ : ∃ x, St.insO ⟨k, v1, v2, v3, v4, v5, v6⟩ = x := ⟨_, rfl⟩
      rw [hJ] at HIns he hq2
      have hq := beq_no he
      clear hk0 he hJ
      have SS : (fun W' => W'.cell? ⟨Kx, 0, none⟩ = some (.int .i64 k) ∧ W'.cell? ⟨Kx, 1, none⟩ = some (.int .i64 v1) ∧ W'.cell? ⟨Kx, 2, none⟩ = some (.int .i64 v2) ∧ W'.cell? ⟨Kx, 3, none⟩ = some (.int .i64 v3) ∧ W'.cell? ⟨Kx, 4, none⟩ = some (.int .u64 (v4 : Int)) ∧ W'.cell? ⟨Kx, 5, none⟩ = some (.slice A v5.length c) ∧ W'.cell? ⟨Kx, 6, none⟩ = some (.slice B v6.length d) ∧ W'.cell? ⟨N, 0, none⟩ = some (.slice A1 0 c1) ∧ W'.cell? ⟨N, 1, none⟩ = some (.bool true)) (World.drew W) := ⟨c0, c1_, c2_, c3_, c4_, c5_, c6_, p0, p1⟩
      dsimp only at SS
      have SSc := SS
      obtain ⟨t0, t1, t2, t3, t4, t5, t6, t7, t8⟩ := SSc
      have VD : (World.drew W).heap[w.heap.size]? = some (.cells #[.int .i64 0, .int .i64 0, .int .i64 0, .int .i64 0, .int .u64 0, .slice none 0 0, .slice none 0 0] 48 (0, 0)) := VR
      refine wp_region_held_drew (S := (fun W' => W'.cell? ⟨Kx, 0, none⟩ = some (.int .i64 k) ∧ W'.cell? ⟨Kx, 1, none⟩ = some (.int .i64 v1) ∧ W'.cell? ⟨Kx, 2, none⟩ = some (.int .i64 v2) ∧ W'.cell? ⟨Kx, 3, none⟩ = some (.int .i64 v3) ∧ W'.cell? ⟨Kx, 4, none⟩ = some (.int .u64 (v4 : Int)) ∧ W'.cell? ⟨Kx, 5, none⟩ = some (.slice A v5.length c) ∧ W'.cell? ⟨Kx, 6, none⟩ = some (.slice B v6.length d) ∧ W'.cell? ⟨N, 0, none⟩ = some (.slice A1 0 c1) ∧ W'.cell? ⟨N, 1, none⟩ = some (.bool true))) (by kernel_rfl) ?_ (fun hHeld0 => ?_)
      · first | assumption | go_keep
      refine tk (i := 0) (oi := ⟨some 79, .load 48 (.tmp 5), 48, "stext.go:244", #[], none⟩) rfl ?_; (try simp only [Act.put, List.setIfInBounds_toArray, List.set_cons_succ, List.set_cons_zero])
      refine tk (i := 1) (oi := ⟨some 80, .move (.tmp 4), 130, "stext.go:244", #[], none⟩) rfl ?_; (try simp only [Act.put, List.setIfInBounds_toArray, List.set_cons_succ, List.set_cons_zero])
      refine tk (i := 2) (oi := ⟨some 81, .nilCheck (.tmp 80), 0, "stext.go:244", #[⟨1, .data⟩], none⟩) rfl ?_; (try simp only [Act.put, List.setIfInBounds_toArray, List.set_cons_succ, List.set_cons_zero])
      refine tk (i := 3) (oi := ⟨some 82, .fieldAddr 132 (.tmp 81) 1, 0, "stext.go:244", #[⟨2, .data⟩], none⟩) rfl ?_; (try simp only [Act.put, List.setIfInBounds_toArray, List.set_cons_succ, List.set_cons_zero])
      refine tk (i := 4) (oi := ⟨some 83, .load 4 (.tmp 82), 4, "stext.go:244", #[⟨3, .data⟩], none⟩) rfl ?_; (try simp only [Act.put, List.setIfInBounds_toArray, List.set_cons_succ, List.set_cons_zero])
      refine tk (i := 5) (oi := ⟨some 84, .move (.tmp 83), 4, "stext.go:244", #[⟨4, .data⟩], none⟩) rfl ?_; (try simp only [Act.put, List.setIfInBounds_toArray, List.set_cons_succ, List.set_cons_zero])
      refine tk (i := 6) (oi := ⟨some 85, .fieldAddr 48 (.tmp 5) 0, 0, "stext.go:244", #[⟨5, .guard⟩], some (5, true)⟩) rfl ?_; (try simp only [Act.put, List.setIfInBounds_toArray, List.set_cons_succ, List.set_cons_zero])
      refine tk (i := 7) (oi := ⟨some 86, .load 3 (.tmp 85), 3, "stext.go:244", #[⟨6, .data⟩, ⟨5, .guard⟩], some (5, true)⟩) rfl ?_; (try simp only [Act.put, List.setIfInBounds_toArray, List.set_cons_succ, List.set_cons_zero])
      refine tk (i := 8) (oi := ⟨some 87, .binOp .geq 3 (.tmp 86) (.const (.int .i64 0)) 3, 4, "stext.go:244", #[⟨7, .data⟩, ⟨5, .guard⟩], some (5, true)⟩) rfl ?_; (try simp only [Act.put, List.setIfInBounds_toArray, List.set_cons_succ, List.set_cons_zero])
      refine tk (i := 9) (oi := ⟨some 88, .pick (.tmp 84) (.tmp 87) (.const (.bool false)), 4, "stext.go:244", #[⟨5, .data⟩, ⟨8, .data⟩], none⟩) rfl ?_; (try simp only [Act.put, List.setIfInBounds_toArray, List.set_cons_succ, List.set_cons_zero])
      refine tk (i := 10) (oi := ⟨some 89, .move (.tmp 88), 4, "stext.go:244", #[⟨9, .data⟩, ⟨5, .chain⟩], none⟩) rfl ?_; (try simp only [Act.put, List.setIfInBounds_toArray, List.set_cons_succ, List.set_cons_zero])
      refine tk (i := 11) (oi := ⟨some 90, .move (.tmp 4), 130, "stext.go:244", #[⟨10, .guard⟩], some (10, true)⟩) rfl ?_; (try simp only [Act.put, List.setIfInBounds_toArray, List.set_cons_succ, List.set_cons_zero])
      refine tk (i := 12) (oi := ⟨some 91, .nilCheck (.tmp 90), 0, "stext.go:244", #[⟨11, .data⟩, ⟨10, .guard⟩], some (10, true)⟩) rfl ?_; (try simp only [Act.put, List.setIfInBounds_toArray, List.set_cons_succ, List.set_cons_zero])
      refine tk (i := 13) (oi := ⟨some 92, .fieldAddr 132 (.tmp 91) 0, 0, "stext.go:244", #[⟨12, .data⟩, ⟨10, .guard⟩], some (10, true)⟩) rfl ?_; (try simp only [Act.put, List.setIfInBounds_toArray, List.set_cons_succ, List.set_cons_zero])
      refine tk (i := 14) (oi := ⟨some 93, .load 54 (.tmp 92), 54, "stext.go:244", #[⟨13, .data⟩, ⟨10, .guard⟩], some (10, true)⟩) rfl ?_; (try simp only [Act.put, List.setIfInBounds_toArray, List.set_cons_succ, List.set_cons_zero])
      refine tk (i := 15) (oi := ⟨some 94, .call { callee := .builtin .len, args := #[.tmp 93], argTypes := #[54] }, 3, "stext.go:244", #[⟨14, .data⟩, ⟨10, .guard⟩], some (10, true)⟩) rfl ?_; (try simp only [Act.put, List.setIfInBounds_toArray, List.set_cons_succ, List.set_cons_zero])
      refine tk (i := 16) (oi := ⟨some 95, .binOp .eql 3 (.tmp 94) (.const (.int .i64 0)) 3, 4, "stext.go:244", #[⟨15, .data⟩, ⟨10, .guard⟩], some (10, true)⟩) rfl ?_; (try simp only [Act.put, List.setIfInBounds_toArray, List.set_cons_succ, List.set_cons_zero])
      refine tk (i := 17) (oi := ⟨some 96, .pick (.tmp 89) (.tmp 95) (.const (.bool false)), 4, "stext.go:244", #[⟨10, .data⟩, ⟨16, .data⟩], none⟩) rfl ?_; (try simp only [Act.put, List.setIfInBounds_toArray, List.set_cons_succ, List.set_cons_zero])
      refine tk (i := 18) (oi := ⟨some 97, .move (.tmp 96), 4, "stext.go:244", #[⟨17, .data⟩, ⟨10, .chain⟩], none⟩) rfl ?_; (try simp only [Act.put, List.setIfInBounds_toArray, List.set_cons_succ, List.set_cons_zero])
      refine tk (i := 19) (oi := ⟨some 98, .load 48 (.tmp 5), 48, "stext.go:244", #[⟨18, .guard⟩], some (18, true)⟩) rfl ?_; (try simp only [Act.put, List.setIfInBounds_toArray, List.set_cons_succ, List.set_cons_zero])
      refine tk (i := 21) (oi := ⟨some 100, .move (.tmp 0), 9, "stext.go:244", #[⟨18, .guard⟩, { on := 24, ground := .gcOnly Go.Departure.lateStores }], some (18, true)⟩) rfl ?_; (try simp only [Act.put, List.setIfInBounds_toArray, List.set_cons_succ, List.set_cons_zero])
      refine wpAnyH_ready (rs := [20]) (by kernel_rfl) (by simp) ?_
      refine AllReadyH.cons (o := ⟨some 99, .call { callee := .value (.func 20), args := #[.tmp 98], argTypes := #[48] }, 9, "stext.go:244", #[⟨19, .data⟩, ⟨18, .chain⟩, ⟨18, .guard⟩], some (18, true)⟩) rfl (fun K hK => ?_) AllReadyH.nil
      go_simp
      (refine (HIns.out (World.drew W) (show RdS (World.drew W) _ A 1 encZ v5 from R5.out.1) (show RdS (World.drew W) _ B 1 encZ v6 from R6.out.1) ((HG.out.below BEL.out).below (below_drewN W 1))).mono ?_; rintro e w5 ⟨rfl, hb5⟩; have U5 := Lib.hid ((below_drewN W 1).trans (hb5.mono (Nat.le_refl _))); have V5 := var_keep VR U5.out; have kp := Below.keep U5.out (fun _ => True); have d0 := kp _ _ trivial c0; have d1 := kp _ _ trivial c1_; have d2 := kp _ _ trivial c2_; have d3 := kp _ _ trivial c3_; have d4 := kp _ _ trivial c4_; have d5 := kp _ _ trivial c5_; have d6 := kp _ _ trivial c6_; have d7 := kp _ _ trivial p0; have d8 := kp _ _ trivial p1; clear kp hb5; have SS5 : (fun W' => W'.cell? ⟨Kx, 0, none⟩ = some (.int .i64 k) ∧ W'.cell? ⟨Kx, 1, none⟩ = some (.int .i64 v1) ∧ W'.cell? ⟨Kx, 2, none⟩ = some (.int .i64 v2) ∧ W'.cell? ⟨Kx, 3, none⟩ = some (.int .i64 v3) ∧ W'.cell? ⟨Kx, 4, none⟩ = some (.int .u64 (v4 : Int)) ∧ W'.cell? ⟨Kx, 5, none⟩ = some (.slice A v5.length c) ∧ W'.cell? ⟨Kx, 6, none⟩ = some (.slice B v6.length d) ∧ W'.cell? ⟨N, 0, none⟩ = some (.slice A1 0 c1) ∧ W'.cell? ⟨N, 1, none⟩ = some (.bool true)) w5 := ⟨d0, d1, d2, d3, d4, d5, d6, d7, d8⟩; dsimp only at SS5)
      (try dsimp only)
      refine hK.out _ _ ?_ (fun hHeld1 => ?_)
      · first | trivial | ((try dsimp only); first | assumption | trivial | go_keep)
      clear hK K hHeld0
      (try simp only [Act.put, List.setIfInBounds_toArray, List.set_cons_succ, List.set_cons_zero])
      refine tk (i := 22) (oi := ⟨some 101, .binOp .eql 9 (.tmp 99) (.tmp 100) 9, 4, "stext.go:244", #[⟨20, .data⟩, ⟨21, .data⟩, ⟨18, .guard⟩, { on := 24, ground := .gcOnly Go.Departure.lateStores }], some (18, true)⟩) rfl ?_; (try simp only [Act.put, List.setIfInBounds_toArray, List.set_cons_succ, List.set_cons_zero])
      refine tk (i := 23) (oi := ⟨some 102, .pick (.tmp 97) (.tmp 101) (.const (.bool false)), 4, "stext.go:244", #[⟨18, .data⟩, ⟨22, .data⟩, { on := 24, ground := .gcOnly Go.Departure.lateStores }], none⟩) rfl ?_; (try simp only [Act.put, List.setIfInBounds_toArray, List.set_cons_succ, List.set_cons_zero])
      refine wpAnyH_ready (rs := [24]) (by kernel_rfl) (by simp) ?_
      refine AllReadyH.cons (o := ⟨none, .store 48 (.tmp 2) (.tmp 79), 0, "stext.go:244", #[⟨0, .data⟩, ⟨20, .chain⟩, ⟨0, .phase⟩, { on := 1, ground := .textOnly Go.Departure.lateStores }, { on := 2, ground := .textOnly Go.Departure.lateStores }, { on := 3, ground := .textOnly Go.Departure.lateStores }, { on := 4, ground := .textOnly Go.Departure.lateStores }, { on := 5, ground := .textOnly Go.Departure.lateStores }, { on := 6, ground := .textOnly Go.Departure.lateStores }, { on := 7, ground := .textOnly Go.Departure.lateStores }, { on := 8, ground := .textOnly Go.Departure.lateStores }, { on := 9, ground := .textOnly Go.Departure.lateStores }, { on := 10, ground := .textOnly Go.Departure.lateStores }, { on := 11, ground := .textOnly Go.Departure.lateStores }, { on := 12, ground := .textOnly Go.Departure.lateStores }, { on := 13, ground := .textOnly Go.Departure.lateStores }, { on := 14, ground := .textOnly Go.Departure.lateStores }, { on := 15, ground := .textOnly Go.Departure.lateStoresUnsure }, { on := 16, ground := .textOnly Go.Departure.lateStores }, { on := 17, ground := .textOnly Go.Departure.lateStores }, { on := 18, ground := .textOnly Go.Departure.lateStores }, { on := 19, ground := .textOnly Go.Departure.lateStores }, { on := 20, ground := .textOnly Go.Departure.lateStoresUnsure }, { on := 21, ground := .textOnly Go.Departure.lateStores }, { on := 22, ground := .textOnly Go.Departure.lateStores }, { on := 23, ground := .textOnly Go.Departure.lateStores }], none⟩) rfl (fun K hK => ?_) AllReadyH.nil
      (rw [if_pos (by rfl)]; refine wp_store_row 48 (.tmp 2) (.tmp 79) rfl w.heap.size #[.int .i64 k, .int .i64 v1, .int .i64 v2, .int .i64 v3, .int .u64 (v4 : Int), .slice A v5.length c, .slice B v6.length d] rfl rfl 48 #[.int .i64 0, .int .i64 0, .int .i64 0, .int .i64 0, .int .u64 0, .slice none 0 0, .slice none 0 0] V5 info_sins rfl (by simp [Value.oneCell']) ?_; have gS := setRow_grown w5 w.heap.size #[.int .i64 k, .int .i64 v1, .int .i64 v2, .int .i64 v3, .int .u64 (v4 : Int), .slice A v5.length c, .slice B v6.length d]; have SS2 : (fun W' => W'.cell? ⟨Kx, 0, none⟩ = some (.int .i64 k) ∧ W'.cell? ⟨Kx, 1, none⟩ = some (.int .i64 v1) ∧ W'.cell? ⟨Kx, 2, none⟩ = some (.int .i64 v2) ∧ W'.cell? ⟨Kx, 3, none⟩ = some (.int .i64 v3) ∧ W'.cell? ⟨Kx, 4, none⟩ = some (.int .u64 (v4 : Int)) ∧ W'.cell? ⟨Kx, 5, none⟩ = some (.slice A v5.length c) ∧ W'.cell? ⟨Kx, 6, none⟩ = some (.slice B v6.length d) ∧ W'.cell? ⟨N, 0, none⟩ = some (.slice A1 0 c1) ∧ W'.cell? ⟨N, 1, none⟩ = some (.bool true)) (w5.setRow w.heap.size #[.int .i64 k, .int .i64 v1, .int .i64 v2, .int .i64 v3, .int .u64 (v4 : Int), .slice A v5.length c, .slice B v6.length d]) := ⟨gS.cell d0 (by simp; omega), gS.cell d1 (by simp; omega), gS.cell d2 (by simp; omega), gS.cell d3 (by simp; omega), gS.cell d4 (by simp; omega), gS.cell d5 (by simp; omega), gS.cell d6 (by simp; omega), gS.cell d7 (by simp; omega), gS.cell d8 (by simp; omega)⟩; dsimp only at SS2)
      (try dsimp only)
      refine hK.out _ _ ?_ (fun hHeld2 => ?_)
      · first | trivial | ((try dsimp only); first | assumption | trivial | go_keep)
      clear hK K hHeld1
      (try simp only [Act.put, List.setIfInBounds_toArray, List.set_cons_succ, List.set_cons_zero])
      refine tk (i := 25) (oi := ⟨some 3, .assign (.tmp 102), 4, "stext.go:244", #[⟨23, .data⟩, ⟨24, .chain⟩, ⟨0, .phase⟩, ⟨1, .phase⟩, ⟨2, .phase⟩, ⟨3, .phase⟩, ⟨4, .phase⟩, ⟨5, .phase⟩, ⟨6, .phase⟩, ⟨7, .phase⟩, ⟨8, .phase⟩, ⟨9, .phase⟩, ⟨10, .phase⟩, ⟨11, .phase⟩, ⟨12, .phase⟩, ⟨13, .phase⟩, ⟨14, .phase⟩, ⟨15, .phase⟩, ⟨16, .phase⟩, ⟨17, .phase⟩, ⟨18, .phase⟩, ⟨19, .phase⟩, ⟨20, .phase⟩, ⟨21, .phase⟩, ⟨22, .phase⟩, ⟨23, .phase⟩, ⟨24, .phase⟩], none⟩) rfl ?_; (try simp only [Act.put, List.setIfInBounds_toArray, List.set_cons_succ, List.set_cons_zero])
      refine wpAnyH_done (by kernel_rfl) ?_ _
      (try dsimp only)
      repeat (first | go_values | go_skip | go_guarded | go_step | go_upon)
      have fin := insFin (by omega) (by omega) BEL.out U5.out R5.out R6.out w.heap.size (Nat.le_refl _) (by omega) #[.int .i64 k, .int .i64 v1, .int .i64 v2, .int .i64 v3, .int .u64 (v4 : Int), .slice A v5.length c, .slice B v6.length d]
      refine bodyPost_ret (results_cell_row_tmp rfl _ _ w.heap.size _ #[.int .i64 k, .int .i64 v1, .int .i64 v2, .int .i64 v3, .int .u64 (v4 : Int), .slice A v5.length c, .slice B v6.length d] (0, 0) _ rfl (setRow_heap w5 w.heap.size #[.int .i64 0, .int .i64 0, .int .i64 0, .int .i64 0, .int .u64 0, .slice none 0 0, .slice none 0 0] _ _ (0, 0) V5) Tryz.underlying48 rfl (by kernel_rfl)) rfl ?_
      obtain rfl := HR.out
      exact ⟨⟨A, c, B, d, rfl, fin.2.1, fin.2.2⟩, fin.1⟩
  · have x0 : ¬ ((rl6.length : Int) + 1 = 0) := by omega
    have HR : Hid (R = ((⟨k, v1, v2, v3, v4, v5, v6⟩ : St.Ins), false)) := Lib.hid (by rw [HR.out, hk0]; rfl)
    simp only [List.length_cons] at p0
    clear hk0
    have SS : (fun W' => W'.cell? ⟨Kx, 0, none⟩ = some (.int .i64 k) ∧ W'.cell? ⟨Kx, 1, none⟩ = some (.int .i64 v1) ∧ W'.cell? ⟨Kx, 2, none⟩ = some (.int .i64 v2) ∧ W'.cell? ⟨Kx, 3, none⟩ = some (.int .i64 v3) ∧ W'.cell? ⟨Kx, 4, none⟩ = some (.int .u64 (v4 : Int)) ∧ W'.cell? ⟨Kx, 5, none⟩ = some (.slice A v5.length c) ∧ W'.cell? ⟨Kx, 6, none⟩ = some (.slice B v6.length d) ∧ W'.cell? ⟨N, 0, none⟩ = some (.slice A1 (rl6.length + 1) c1) ∧ W'.cell? ⟨N, 1, none⟩ = some (.bool true)) (World.drew W) := ⟨c0, c1_, c2_, c3_, c4_, c5_, c6_, p0, p1⟩
    dsimp only at SS
    have SSc := SS
    obtain ⟨t0, t1, t2, t3, t4, t5, t6, t7, t8⟩ := SSc
    have VD : (World.drew W).heap[w.heap.size]? = some (.cells #[.int .i64 0, .int .i64 0, .int .i64 0, .int .i64 0, .int .u64 0, .slice none 0 0, .slice none 0 0] 48 (0, 0)) := VR
    refine wp_region_held_drew (S := (fun W' => W'.cell? ⟨Kx, 0, none⟩ = some (.int .i64 k) ∧ W'.cell? ⟨Kx, 1, none⟩ = some (.int .i64 v1) ∧ W'.cell? ⟨Kx, 2, none⟩ = some (.int .i64 v2) ∧ W'.cell? ⟨Kx, 3, none⟩ = some (.int .i64 v3) ∧ W'.cell? ⟨Kx, 4, none⟩ = some (.int .u64 (v4 : Int)) ∧ W'.cell? ⟨Kx, 5, none⟩ = some (.slice A v5.length c) ∧ W'.cell? ⟨Kx, 6, none⟩ = some (.slice B v6.length d) ∧ W'.cell? ⟨N, 0, none⟩ = some (.slice A1 (rl6.length + 1) c1) ∧ W'.cell? ⟨N, 1, none⟩ = some (.bool true))) (by kernel_rfl) ?_ (fun hHeld0 => ?_)
    · first | assumption | go_keep
    refine tk (i := 0) (oi := ⟨some 79, .load 48 (.tmp 5), 48, "stext.go:244", #[], none⟩) rfl ?_; (try simp only [Act.put, List.setIfInBounds_toArray, List.set_cons_succ, List.set_cons_zero])
    refine tk (i := 1) (oi := ⟨some 80, .move (.tmp 4), 130, "stext.go:244", #[], none⟩) rfl ?_; (try simp only [Act.put, List.setIfInBounds_toArray, List.set_cons_succ, List.set_cons_zero])
    refine tk (i := 2) (oi := ⟨some 81, .nilCheck (.tmp 80), 0, "stext.go:244", #[⟨1, .data⟩], none⟩) rfl ?_; (try simp only [Act.put, List.setIfInBounds_toArray, List.set_cons_succ, List.set_cons_zero])
    refine tk (i := 3) (oi := ⟨some 82, .fieldAddr 132 (.tmp 81) 1, 0, "stext.go:244", #[⟨2, .data⟩], none⟩) rfl ?_; (try simp only [Act.put, List.setIfInBounds_toArray, List.set_cons_succ, List.set_cons_zero])
    refine tk (i := 4) (oi := ⟨some 83, .load 4 (.tmp 82), 4, "stext.go:244", #[⟨3, .data⟩], none⟩) rfl ?_; (try simp only [Act.put, List.setIfInBounds_toArray, List.set_cons_succ, List.set_cons_zero])
    refine tk (i := 5) (oi := ⟨some 84, .move (.tmp 83), 4, "stext.go:244", #[⟨4, .data⟩], none⟩) rfl ?_; (try simp only [Act.put, List.setIfInBounds_toArray, List.set_cons_succ, List.set_cons_zero])
    refine tk (i := 6) (oi := ⟨some 85, .fieldAddr 48 (.tmp 5) 0, 0, "stext.go:244", #[⟨5, .guard⟩], some (5, true)⟩) rfl ?_; (try simp only [Act.put, List.setIfInBounds_toArray, List.set_cons_succ, List.set_cons_zero])
    refine tk (i := 7) (oi := ⟨some 86, .load 3 (.tmp 85), 3, "stext.go:244", #[⟨6, .data⟩, ⟨5, .guard⟩], some (5, true)⟩) rfl ?_; (try simp only [Act.put, List.setIfInBounds_toArray, List.set_cons_succ, List.set_cons_zero])
    refine tk (i := 8) (oi := ⟨some 87, .binOp .geq 3 (.tmp 86) (.const (.int .i64 0)) 3, 4, "stext.go:244", #[⟨7, .data⟩, ⟨5, .guard⟩], some (5, true)⟩) rfl ?_; (try simp only [Act.put, List.setIfInBounds_toArray, List.set_cons_succ, List.set_cons_zero])
    refine tk (i := 9) (oi := ⟨some 88, .pick (.tmp 84) (.tmp 87) (.const (.bool false)), 4, "stext.go:244", #[⟨5, .data⟩, ⟨8, .data⟩], none⟩) rfl ?_; (try simp only [Act.put, List.setIfInBounds_toArray, List.set_cons_succ, List.set_cons_zero])
    refine tk (i := 10) (oi := ⟨some 89, .move (.tmp 88), 4, "stext.go:244", #[⟨9, .data⟩, ⟨5, .chain⟩], none⟩) rfl ?_; (try simp only [Act.put, List.setIfInBounds_toArray, List.set_cons_succ, List.set_cons_zero])
    refine tk (i := 11) (oi := ⟨some 90, .move (.tmp 4), 130, "stext.go:244", #[⟨10, .guard⟩], some (10, true)⟩) rfl ?_; (try simp only [Act.put, List.setIfInBounds_toArray, List.set_cons_succ, List.set_cons_zero])
    refine tk (i := 12) (oi := ⟨some 91, .nilCheck (.tmp 90), 0, "stext.go:244", #[⟨11, .data⟩, ⟨10, .guard⟩], some (10, true)⟩) rfl ?_; (try simp only [Act.put, List.setIfInBounds_toArray, List.set_cons_succ, List.set_cons_zero])
    refine tk (i := 13) (oi := ⟨some 92, .fieldAddr 132 (.tmp 91) 0, 0, "stext.go:244", #[⟨12, .data⟩, ⟨10, .guard⟩], some (10, true)⟩) rfl ?_; (try simp only [Act.put, List.setIfInBounds_toArray, List.set_cons_succ, List.set_cons_zero])
    refine tk (i := 14) (oi := ⟨some 93, .load 54 (.tmp 92), 54, "stext.go:244", #[⟨13, .data⟩, ⟨10, .guard⟩], some (10, true)⟩) rfl ?_; (try simp only [Act.put, List.setIfInBounds_toArray, List.set_cons_succ, List.set_cons_zero])
    refine tk (i := 15) (oi := ⟨some 94, .call { callee := .builtin .len, args := #[.tmp 93], argTypes := #[54] }, 3, "stext.go:244", #[⟨14, .data⟩, ⟨10, .guard⟩], some (10, true)⟩) rfl ?_; (try simp only [Act.put, List.setIfInBounds_toArray, List.set_cons_succ, List.set_cons_zero])
    refine tk (i := 16) (oi := ⟨some 95, .binOp .eql 3 (.tmp 94) (.const (.int .i64 0)) 3, 4, "stext.go:244", #[⟨15, .data⟩, ⟨10, .guard⟩], some (10, true)⟩) rfl ?_; (try simp only [Act.put, List.setIfInBounds_toArray, List.set_cons_succ, List.set_cons_zero])
    refine tk (i := 17) (oi := ⟨some 96, .pick (.tmp 89) (.tmp 95) (.const (.bool false)), 4, "stext.go:244", #[⟨10, .data⟩, ⟨16, .data⟩], none⟩) rfl ?_; (try simp only [Act.put, List.setIfInBounds_toArray, List.set_cons_succ, List.set_cons_zero])
    refine tk (i := 18) (oi := ⟨some 97, .move (.tmp 96), 4, "stext.go:244", #[⟨17, .data⟩, ⟨10, .chain⟩], none⟩) rfl ?_; (try simp only [Act.put, List.setIfInBounds_toArray, List.set_cons_succ, List.set_cons_zero])
    refine tkN (i := 19) (oi := ⟨some 98, .load 48 (.tmp 5), 48, "stext.go:244", #[⟨18, .guard⟩], some (18, true)⟩) rfl ?_; (try simp only [Act.put, List.setIfInBounds_toArray, List.set_cons_succ, List.set_cons_zero])
    refine tkN (i := 20) (oi := ⟨some 99, .call { callee := .value (.func 20), args := #[.tmp 98], argTypes := #[48] }, 9, "stext.go:244", #[⟨19, .data⟩, ⟨18, .chain⟩, ⟨18, .guard⟩], some (18, true)⟩) rfl ?_; (try simp only [Act.put, List.setIfInBounds_toArray, List.set_cons_succ, List.set_cons_zero])
    refine tkN (i := 21) (oi := ⟨some 100, .move (.tmp 0), 9, "stext.go:244", #[⟨18, .guard⟩, { on := 24, ground := .gcOnly Go.Departure.lateStores }], some (18, true)⟩) rfl ?_; (try simp only [Act.put, List.setIfInBounds_toArray, List.set_cons_succ, List.set_cons_zero])
    refine tkN (i := 22) (oi := ⟨some 101, .binOp .eql 9 (.tmp 99) (.tmp 100) 9, 4, "stext.go:244", #[⟨20, .data⟩, ⟨21, .data⟩, ⟨18, .guard⟩, { on := 24, ground := .gcOnly Go.Departure.lateStores }], some (18, true)⟩) rfl ?_; (try simp only [Act.put, List.setIfInBounds_toArray, List.set_cons_succ, List.set_cons_zero])
    refine tk (i := 23) (oi := ⟨some 102, .pick (.tmp 97) (.tmp 101) (.const (.bool false)), 4, "stext.go:244", #[⟨18, .data⟩, ⟨22, .data⟩, { on := 24, ground := .gcOnly Go.Departure.lateStores }], none⟩) rfl ?_; (try simp only [Act.put, List.setIfInBounds_toArray, List.set_cons_succ, List.set_cons_zero])
    refine wpAnyH_ready (rs := [24]) (by kernel_rfl) (by simp) ?_
    refine AllReadyH.cons (o := ⟨none, .store 48 (.tmp 2) (.tmp 79), 0, "stext.go:244", #[⟨0, .data⟩, ⟨20, .chain⟩, ⟨0, .phase⟩, { on := 1, ground := .textOnly Go.Departure.lateStores }, { on := 2, ground := .textOnly Go.Departure.lateStores }, { on := 3, ground := .textOnly Go.Departure.lateStores }, { on := 4, ground := .textOnly Go.Departure.lateStores }, { on := 5, ground := .textOnly Go.Departure.lateStores }, { on := 6, ground := .textOnly Go.Departure.lateStores }, { on := 7, ground := .textOnly Go.Departure.lateStores }, { on := 8, ground := .textOnly Go.Departure.lateStores }, { on := 9, ground := .textOnly Go.Departure.lateStores }, { on := 10, ground := .textOnly Go.Departure.lateStores }, { on := 11, ground := .textOnly Go.Departure.lateStores }, { on := 12, ground := .textOnly Go.Departure.lateStores }, { on := 13, ground := .textOnly Go.Departure.lateStores }, { on := 14, ground := .textOnly Go.Departure.lateStores }, { on := 15, ground := .textOnly Go.Departure.lateStoresUnsure }, { on := 16, ground := .textOnly Go.Departure.lateStores }, { on := 17, ground := .textOnly Go.Departure.lateStores }, { on := 18, ground := .textOnly Go.Departure.lateStores }, { on := 19, ground := .textOnly Go.Departure.lateStores }, { on := 20, ground := .textOnly Go.Departure.lateStoresUnsure }, { on := 21, ground := .textOnly Go.Departure.lateStores }, { on := 22, ground := .textOnly Go.Departure.lateStores }, { on := 23, ground := .textOnly Go.Departure.lateStores }], none⟩) rfl (fun K hK => ?_) AllReadyH.nil
    (rw [if_pos (by rfl)]; refine wp_store_row 48 (.tmp 2) (.tmp 79) rfl w.heap.size #[.int .i64 k, .int .i64 v1, .int .i64 v2, .int .i64 v3, .int .u64 (v4 : Int), .slice A v5.length c, .slice B v6.length d] rfl rfl 48 #[.int .i64 0, .int .i64 0, .int .i64 0, .int .i64 0, .int .u64 0, .slice none 0 0, .slice none 0 0] VD info_sins rfl (by simp [Value.oneCell']) ?_; have gS := setRow_grown (World.drew W) w.heap.size #[.int .i64 k, .int .i64 v1, .int .i64 v2, .int .i64 v3, .int .u64 (v4 : Int), .slice A v5.length c, .slice B v6.length d]; have SS2 : (fun W' => W'.cell? ⟨Kx, 0, none⟩ = some (.int .i64 k) ∧ W'.cell? ⟨Kx, 1, none⟩ = some (.int .i64 v1) ∧ W'.cell? ⟨Kx, 2, none⟩ = some (.int .i64 v2) ∧ W'.cell? ⟨Kx, 3, none⟩ = some (.int .i64 v3) ∧ W'.cell? ⟨Kx, 4, none⟩ = some (.int .u64 (v4 : Int)) ∧ W'.cell? ⟨Kx, 5, none⟩ = some (.slice A v5.length c) ∧ W'.cell? ⟨Kx, 6, none⟩ = some (.slice B v6.length d) ∧ W'.cell? ⟨N, 0, none⟩ = some (.slice A1 (rl6.length + 1) c1) ∧ W'.cell? ⟨N, 1, none⟩ = some (.bool true)) ((World.drew W).setRow w.heap.size #[.int .i64 k, .int .i64 v1, .int .i64 v2, .int .i64 v3, .int .u64 (v4 : Int), .slice A v5.length c, .slice B v6.length d]) := ⟨gS.cell t0 (by simp; omega), gS.cell t1 (by simp; omega), gS.cell t2 (by simp; omega), gS.cell t3 (by simp; omega), gS.cell t4 (by simp; omega), gS.cell t5 (by simp; omega), gS.cell t6 (by simp; omega), gS.cell t7 (by simp; omega), gS.cell t8 (by simp; omega)⟩; dsimp only at SS2)
    (try dsimp only)
    refine hK.out _ _ ?_ (fun hHeld1 => ?_)
    · first | trivial | ((try dsimp only); first | assumption | trivial | go_keep)
    clear hK K hHeld0
    (try simp only [Act.put, List.setIfInBounds_toArray, List.set_cons_succ, List.set_cons_zero])
    refine tk (i := 25) (oi := ⟨some 3, .assign (.tmp 102), 4, "stext.go:244", #[⟨23, .data⟩, ⟨24, .chain⟩, ⟨0, .phase⟩, ⟨1, .phase⟩, ⟨2, .phase⟩, ⟨3, .phase⟩, ⟨4, .phase⟩, ⟨5, .phase⟩, ⟨6, .phase⟩, ⟨7, .phase⟩, ⟨8, .phase⟩, ⟨9, .phase⟩, ⟨10, .phase⟩, ⟨11, .phase⟩, ⟨12, .phase⟩, ⟨13, .phase⟩, ⟨14, .phase⟩, ⟨15, .phase⟩, ⟨16, .phase⟩, ⟨17, .phase⟩, ⟨18, .phase⟩, ⟨19, .phase⟩, ⟨20, .phase⟩, ⟨21, .phase⟩, ⟨22, .phase⟩, ⟨23, .phase⟩, ⟨24, .phase⟩], none⟩) rfl ?_; (try simp only [Act.put, List.setIfInBounds_toArray, List.set_cons_succ, List.set_cons_zero])
    refine wpAnyH_done (by kernel_rfl) ?_ _
    (try dsimp only)
    repeat (first | go_values | go_skip | go_guarded | go_step | go_upon)
    have fin := insFin (by omega) (by omega) BEL.out (below_drewN W 1) R5.out R6.out w.heap.size (Nat.le_refl _) (by omega) #[.int .i64 k, .int .i64 v1, .int .i64 v2, .int .i64 v3, .int .u64 (v4 : Int), .slice A v5.length c, .slice B v6.length d]
    refine bodyPost_ret (results_cell_row_tmp rfl _ _ w.heap.size _ #[.int .i64 k, .int .i64 v1, .int .i64 v2, .int .i64 v3, .int .u64 (v4 : Int), .slice A v5.length c, .slice B v6.length d] (0, 0) _ rfl (setRow_heap (World.drew W) w.heap.size #[.int .i64 0, .int .i64 0, .int .i64 0, .int .i64 0, .int .u64 0, .slice none 0 0, .slice none 0 0] _ _ (0, 0) VR) Tryz.underlying48 rfl (by kernel_rfl)) rfl ?_
    obtain rfl := HR.out
    exact ⟨⟨A, c, B, d, rfl, fin.2.1, fin.2.2⟩, fin.1⟩
end Go.Proofs.YtmhmpobjjhbklaaGreatDoor
