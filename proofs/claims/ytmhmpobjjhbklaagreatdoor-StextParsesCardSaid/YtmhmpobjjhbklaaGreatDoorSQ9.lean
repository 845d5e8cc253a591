/-
  Layer 40, the reference's readEnd. (Printed by gen_sq9.py.)
-/
import Derived.Test.YtmhmpobjjhbklaaGreatDoorTk
import Derived.Test.YtmhmpobjjhbklaaGreatDoorQB
import Derived.Deep.Cut
import Derived.Deep.CutRange
import Derived.Deep.RegionHeld3
import Derived.Test.YtmhmpobjjhbklaaGreatDoorSO7
import Derived.Test.YtmhmpobjjhbklaaGreatDoorSR3
import Derived.Deep.CutBlock
set_option linter.unusedVariables false
set_option linter.unusedSimpArgs false
namespace Go.Proofs.YtmhmpobjjhbklaaGreatDoor
namespace St
/-- What lies behind a terminator's words, by the reference. -/
def rfinG (k : Int) (t : List W) : Fin × Bool :=
  match redges (someR (oneR t lOn).1 lOf).1.length (someR (oneR t lOn).1 lOf).1 with
  | none => (fin0z, false)
  | some (es, l) => (⟨k, (oneR t lOn).2, (someR (oneR t lOn).1 lOf).2, es, (oneR l lTrap).2⟩, (oneR l lTrap).1 == [])
theorem redges_stop {f : Nat} {l : List W} (h : l.head? ≠ some lTo) : redges f l = some ([], l) := by
  cases f with
  | zero => rfl
  | succ f => unfold redges; rw [if_neg h]
theorem redges_none {f : Nat} {l m : List W} (h : l.head? = some lTo) (hs : someR l lTo = (m, [])) : redges (f + 1) l = none := by
  conv => lhs; unfold redges
  rw [if_pos h, hs]
theorem redges_some {f : Nat} {l m : List W} {z : Int} {zs : List Int} (h : l.head? = some lTo) (hs : someR l lTo = (m, z :: zs)) : redges (f + 1) l = (redges f m).map fun r => (⟨z, zs⟩ :: r.1, r.2) := by
  conv => lhs; unfold redges
  rw [if_pos h, hs]
theorem numsR_drop (l : List W) : (l.drop (numsR l).length).length + (numsR l).length = l.length := by
  have := numsR_len l
  rw [List.length_drop]; omega
theorem someR_lt {l m : List W} {zs : List Int} (h : l.head? = some lTo) (hs : someR l lTo = (m, zs)) : m.length + zs.length + 1 = l.length := by
  unfold someR at hs
  rw [if_pos h] at hs
  cases hs
  have := numsR_drop l.tail
  rcases l with _ | ⟨a, l⟩
  · cases h
  · simpa using this
theorem redges_ok : ∀ (f : Nat) (l : List W) (es : List Edge) (m : List W), redges f l = some (es, m) → ecount es + m.length ≤ l.length ∧ (∀ e ∈ es, e.args.length ≤ l.length ∧ InR e.tgt ∧ ∀ z ∈ e.args, InR z) ∧ SubL m l
  | 0, l, es, m, h => by cases h; exact ⟨by simp [ecount], by simp, SubL.refl _⟩
  | f + 1, l, es, m, h => by
    by_cases h0 : l.head? = some lTo
    · obtain ⟨⟨n, zs⟩, hs⟩ : ∃ x, someR l lTo = x := ⟨_, rfl⟩
      have hl := someR_lt h0 hs
      have hsub := someR_sub l lTo
      have hin := someR_in l lTo
      rw [hs] at hsub hin
      rcases zs with _ | ⟨z, zs⟩
      · rw [redges_none h0 hs] at h; cases h
      · rw [redges_some h0 hs] at h
        dsimp only at hin hsub
        rcases hr : redges f n with _ | ⟨es', m'⟩
        · rw [hr] at h; cases h
        · rw [hr] at h
          cases h
          obtain ⟨i1, i2, i3⟩ := redges_ok f n es' _ hr
          simp only [List.length_cons] at hl
          refine ⟨?_, ?_, i3.trans hsub⟩
          · simp only [ecount, List.length_cons, List.map_cons, List.sum_cons] at i1 ⊢; omega
          · intro e he
            rcases List.mem_cons.1 he with rfl | he
            · exact ⟨by dsimp only; omega, hin.2 z (by simp), fun y hy => hin.2 y (by simp [hy])⟩
            · obtain ⟨j1, j2⟩ := i2 e he
              exact ⟨by omega, j2⟩
    · rw [redges_stop h0] at h; cases h; exact ⟨by simp [ecount], by simp, SubL.refl _⟩
theorem rfinG_ok (k : Int) (t : List W) (h : t.length ≤ 9000) : (rfinG k t).1.Ok := by
  unfold rfinG
  split
  · exact ⟨by unfold InR; simp [fin0z], ⟨by simp [fin0z], by simp [fin0z]⟩, ⟨by simp [fin0z, ecount], by simp [fin0z]⟩, by unfold InR; simp [fin0z]⟩
  · rename_i es l he
    have s1 := (oneR_sub t lOn).2
    have i2 := someR_in (oneR t lOn).1 lOf
    have s2 := (someR_sub (oneR t lOn).1 lOf).2
    obtain ⟨r1, r2, r3⟩ := redges_ok _ _ _ _ he
    exact ⟨oneR_in _ _, ⟨by dsimp only; omega, i2.2⟩, ⟨by dsimp only; omega, fun e hm => ⟨(r2 e hm).2.1, by have := (r2 e hm).1; omega, (r2 e hm).2.2⟩⟩, oneR_in _ _⟩
end St
open Go.RowKit
open St (InR SubL)
theorem put5 {W : World} {K : Nat} {t : TypeId} {a0 a1 a2 a3 a4 : Value} (h : Var W K #[a0, a1, a2, a3, a4] t) (b0 b1 b2 b3 b4 : Value) :
    Var (((((W.setCell ⟨K, 0, none⟩ b0).setCell ⟨K, 1, none⟩ b1).setCell ⟨K, 2, none⟩ b2).setCell ⟨K, 3, none⟩ b3).setCell ⟨K, 4, none⟩ b4) K #[b0, b1, b2, b3, b4] t ∧
    W.grownBy (((((W.setCell ⟨K, 0, none⟩ b0).setCell ⟨K, 1, none⟩ b1).setCell ⟨K, 2, none⟩ b2).setCell ⟨K, 3, none⟩ b3).setCell ⟨K, 4, none⟩ b4) (some K) :=
  ⟨by have h7 := ((((h.set 0 b0).set 1 b1).set 2 b2).set 3 b3).set 4 b4; simp only [List.setIfInBounds_toArray, List.set_cons_zero, List.set_cons_succ] at h7; exact h7,
   (grown_set _ _ _ _).trans ((grown_set _ _ _ _).trans ((grown_set _ _ _ _).trans ((grown_set _ _ _ _).trans (grown_set _ _ _ _))))⟩
theorem cells5' {W : World} {K : Nat} {t : TypeId} {v0 v1 v2 v3 v4 : Value} (h : Var W K #[v0, v1, v2, v3, v4] t) : (W.cell? ⟨K, 0, none⟩ = some v0 ∧ W.cell? ⟨K, 1, none⟩ = some v1 ∧ W.cell? ⟨K, 2, none⟩ = some v2 ∧ W.cell? ⟨K, 3, none⟩ = some v3 ∧ W.cell? ⟨K, 4, none⟩ = some v4) ∧ W.frozen? ⟨K, 0, none⟩ = false ∧ W.frozen? ⟨K, 1, none⟩ = false ∧ W.frozen? ⟨K, 2, none⟩ = false ∧ W.frozen? ⟨K, 3, none⟩ = false ∧ W.frozen? ⟨K, 4, none⟩ = false :=
  ⟨⟨h.cells 0, h.cells 1, h.cells 2, h.cells 3, h.cells 4⟩, h.froz 0, h.froz 1, h.froz 2, h.froz 3, h.froz 4⟩
/-- The state of the reference's readEnd: the result's cell, the terminator so far; the words lie below N. -/
structure REndAt (w W : World) (N Kx : Nat) (x : St.Fin) (A : Option Addr) (c : Nat) (B : Option Addr) (d : Nat) (L : List EdV) : Prop where
  bel : Below w.heap.size w W
  res : Var W w.heap.size #[.int .i64 0, .int .i64 0, .slice none 0 0, .slice none 0 0, .int .i64 0] 42
  cur : Var W Kx (finC x A c B L.length d) 42
  ar : Row W Kx A x.args
  ed : L.map Prod.fst = x.edges
  own : W.ownsRow (Kx + 1) 50 2 (.slice B L.length d) L.length (L.flatMap encE)
  rows : ∀ p ∈ L, Row W Kx p.2.1 p.1.args
  l1 : w.heap.size < Kx
  l2 : N ≤ Kx
def REnd (w W : World) (N Kx : Nat) (x : St.Fin) : Prop := ∃ A c B d L, REndAt w W N Kx x A c B d L
section
variable {w W W' : World} {N Kx : Nat} {x : St.Fin} {A B : Option Addr} {c d : Nat} {L : List EdV}
theorem REndAt.st (S : REndAt w W N Kx x A c B d L) : REnd w W N Kx x := ⟨A, c, B, d, L, S⟩
theorem REndAt.below (S : REndAt w W N Kx x A c B d L) (hb : Below W.heap.size W W') : REndAt w W' N Kx x A c B d L := by
  obtain ⟨h1, h2, h4, h5, h6, h6b, h6c, h8, h9⟩ := S
  exact ⟨h1.trans (hb.mono h1.size), var_keep h2 hb, var_keep h4 hb, h5.below hb, h6, own_belowW h6b hb, fun p hp => (h6c p hp).below hb, h8, h9⟩
theorem REndAt.cells (S : REndAt w W N Kx x A c B d L) : ∀ i, i < 5 → W.frozen? ⟨Kx, i, none⟩ = false ∧ ∃ v, W.cell? ⟨Kx, i, none⟩ = some v := by
  intro i hi
  refine ⟨S.cur.froz i, ?_⟩
  rw [S.cur.cells]
  exact ⟨_, Array.getElem?_eq_getElem (by simpa [finC] using hi)⟩
theorem REndAt.set (S : REndAt w W N Kx x A c B d L) (i : Nat) (u : Value) {y : St.Fin} {A' c'} (hy : (finC x A c B L.length d).setIfInBounds i u = finC y A' c' B L.length d) (h5 : Row W Kx A' y.args) (he : y.edges = x.edges) : REndAt w (W.setCell ⟨Kx, i, none⟩ u) N Kx y A' c' B d L := by
  have hg := grown_set W Kx i u
  have hs := S.cur.set i u
  rw [hy] at hs
  obtain ⟨h1, h2, -, -, h6, h6b, h6c, h8, h9⟩ := S
  exact ⟨h1.setCell (p := ⟨Kx, i, none⟩) (by show w.heap.size ≤ Kx; omega) u, var_stay h2 hg (by omega), hs, h5.stay hg (Nat.le_refl _), h6.trans he.symm, own_stay h6b hg (by omega), fun p hp => (h6c p hp).stay hg (Nat.le_refl _), h8, h9⟩
theorem REndAt.setCond (S : REndAt w W N Kx x A c B d L) (z : Int) : REndAt w (W.setCell ⟨Kx, 1, none⟩ (.int .i64 z)) N Kx ⟨x.kind, z, x.args, x.edges, x.trap⟩ A c B d L :=
  S.set (A' := A) (c' := c) 1 _ (by simp [finC]) S.ar rfl
theorem REndAt.setTrap (S : REndAt w W N Kx x A c B d L) (z : Int) : REndAt w (W.setCell ⟨Kx, 4, none⟩ (.int .i64 z)) N Kx ⟨x.kind, x.cond, x.args, x.edges, z⟩ A c B d L :=
  S.set (A' := A) (c' := c) 4 _ (by simp [finC]) S.ar rfl
theorem REndAt.setArgs (S : REndAt w W N Kx x A c B d L) {A' c' l} (h : Row W Kx A' l) : REndAt w (W.setCell ⟨Kx, 2, none⟩ (.slice A' l.length c')) N Kx ⟨x.kind, x.cond, l, x.edges, x.trap⟩ A' c' B d L :=
  S.set (A' := A') (c' := c') 2 _ (by simp [finC]) h rfl
/-- An edge appended, and the slice stored. -/
theorem REndAt.app (S : REndAt w W N Kx x A c B d L) {p : EdV} (hp : Row W Kx p.2.1 p.1.args) {B' : Option Addr} {d' : Nat} (own : W'.ownsRow (Kx + 1) 50 2 (.slice B' (L.length + 1) d') (L.length + 1) ((L ++ [p]).flatMap encE)) (hg : W.grownBy W' (Value.slice B L.length d).ownBlock) :
    REndAt w (W'.setCell ⟨Kx, 3, none⟩ (.slice B' (L.length + 1) d')) N Kx ⟨x.kind, x.cond, x.args, x.edges ++ [p.1], x.trap⟩ A c B' d' (L ++ [p]) := by
  obtain ⟨h1, h2, h4, h5, h6, h6b, h6c, h8, h9⟩ := S
  have hge : ∀ j, (Value.slice B L.length d).ownBlock = some j → Kx + 1 ≤ j := fun j hj => (h6b.lt j hj).1
  have k2 := var_grown h2 h6b (by decide) hg
  have k4 := var_grown h4 h6b (by decide) hg
  have k5 := h5.apart h6b (by decide) hg
  have k6 : ∀ q ∈ L ++ [p], Row W' Kx q.2.1 q.1.args := fun q hq => by
    rcases List.mem_append.1 hq with hq | hq
    · exact (h6c q hq).apart h6b (by decide) hg
    · rw [List.mem_singleton.1 hq]; exact hp.apart h6b (by decide) hg
  have k1 : Below w.heap.size w W' := h1.grown hg h1.size (fun j hj => by have := hge j hj; omega)
  have gs := grown_set W' Kx 3 (.slice B' (L.length + 1) d')
  have hs := k4.set 3 (.slice B' (L.length + 1) d')
  exact ⟨k1.setCell (p := ⟨Kx, 3, none⟩) (by show w.heap.size ≤ Kx; omega) _, var_stay k2 gs (by omega), by rw [List.length_append]; simpa [finC] using hs, k5.stay gs (Nat.le_refl _), by simp [h6], by rw [List.length_append]; exact own_stay own gs (by omega), fun q hq => (k6 q hq).stay gs (Nat.le_refl _), h8, h9⟩
theorem REndAt.sl (S : REndAt w W N Kx x A c B d L) {v : Value} {l : List St.W} (h : SlB W N v l) (i : Nat) (u : Value) : SlB (W.setCell ⟨Kx, i, none⟩ u) N v l :=
  h.below ((Below.refl N W).setCell (p := ⟨Kx, i, none⟩) S.l2 u)
theorem REndAt.slApp (S : REndAt w W N Kx x A c B d L) (hN : N ≤ W.heap.size) (hg : W.grownBy W' (Value.slice B L.length d).ownBlock) {v : Value} {l : List St.W} (h : SlB W N v l) (u : Value) : SlB (W'.setCell ⟨Kx, 3, none⟩ u) N v l :=
  h.below (((Below.refl N W).grown hg hN (fun j hj => by have := (S.own.lt j hj).1; have := S.l2; omega)).setCell (p := ⟨Kx, 3, none⟩) S.l2 u)
theorem rendFin {X : World} (S : REndAt w W N Kx x A c B d L) (hX : Below W.heap.size W X) (cs : Array Value) :
    Below w.heap.size w (X.setRow w.heap.size cs) ∧ RdZ (X.setRow w.heap.size cs) (fun g => w.heap.size ≤ g) A x.args ∧ RdT (X.setRow w.heap.size cs) (fun g => w.heap.size ≤ g) B 2 (EdgeAt (fun g => w.heap.size ≤ g)) x.edges := by
  have T := S.below hX
  have hg := setRow_grown X w.heap.size cs
  have l1 := T.l1
  refine ⟨below_grown T.bel hg T.bel.size (Nat.le_refl _), (T.ar.stay hg (by omega)).rdz (by omega), ?_⟩
  have own := own_stay T.own hg (by omega)
  have rows : ∀ p ∈ L, Row (X.setRow w.heap.size cs) Kx p.2.1 p.1.args := fun p hp => (T.rows p hp).stay hg (by omega)
  intro hl
  have hL : L ≠ [] := fun e => hl (by rw [← T.ed, e]; rfl)
  obtain ⟨g, o, e, hb, hc⟩ := own_rds encE_len (by omega) own hL
  refine ⟨g, o, e, (by subst e; have := (own.lt g rfl).1; omega), hb, fun i hi => ?_⟩
  have hi2 : i < L.length := by rw [← T.ed] at hi; simpa using hi
  have he : x.edges[i] = L[i].1 := by simp [← T.ed]
  have c0 := hc i hi2 0 _ rfl
  have c1 := hc i hi2 1 _ rfl
  rw [he]
  exact ⟨c0, _, _, c1, (rows _ (List.getElem_mem _)).rdz (by omega)⟩
theorem REndAt.edges (S : REndAt w W N Kx x A c B d L) : RdT W (fun _ => True) B 2 (EdgeAt (fun _ => True)) x.edges := by
  intro hl
  have hL : L ≠ [] := fun e => hl (by rw [← S.ed, e]; rfl)
  obtain ⟨g, o, e, hb, hc⟩ := own_rds encE_len (by omega) S.own hL
  refine ⟨g, o, e, trivial, hb, fun i hi => ?_⟩
  have hi2 : i < L.length := by rw [← S.ed] at hi; simpa using hi
  have he : x.edges[i] = L[i].1 := by simp [← S.ed]
  have c0 := hc i hi2 0 _ rfl
  have c1 := hc i hi2 1 _ rfl
  rw [he]
  exact ⟨c0, _, _, c1, RdZ.of_rds (S.rows _ (List.getElem_mem _)).1 (fun _ _ _ => trivial)⟩
end
theorem Row.tail {W : World} {K g o o' : Nat} {z : Int} {l : List Int} (h : Row W K (some ⟨g, o, none⟩) (z :: l)) (ho : l = [] ∨ o' = o + 1) : Row W K (some ⟨g, o', none⟩) l := by
  refine ⟨?_, fun g' o'' e => ?_⟩
  · rcases l with _ | ⟨y, l⟩
    · exact RdS.nil_
    · obtain ⟨g', o'', e, hr⟩ := h.1.from_ (i := 1) (by simp)
      cases e
      rcases ho with ho | rfl
      · cases ho
      · exact hr
  · cases e; exact h.2 g o rfl
theorem Row.head {W : World} {K g o : Nat} {z : Int} {l : List Int} (h : Row W K (some ⟨g, o, none⟩) (z :: l)) : W.cell? ⟨g, o, none⟩ = some (.int .i64 z) := by
  obtain ⟨g', o', e, -, h0⟩ := h.1.get (i := 0) (by simp)
  cases e
  exact h0 0 _ rfl
theorem rendA {w w1 w2 : World} (hb1 : Below w.heap.size w w1) (v0 : Var w1 w.heap.size #[.int .i64 0, .int .i64 0, .slice none 0 0, .slice none 0 0, .int .i64 0] 42) (hb : Below w1.heap.size w1 w2) (k : Int) :
    REnd w (w2.alloc (.cells #[.int .i64 k, .int .i64 0, .slice none 0 0, .slice none 0 0, .int .i64 0] 42)) w1.heap.size w2.heap.size ⟨k, 0, [], [], 0⟩ ∧ Below w1.heap.size w1 (w2.alloc (.cells #[.int .i64 k, .int .i64 0, .slice none 0 0, .slice none 0 0, .int .i64 0] 42)) := by
  have h1 := v0.lt
  have h2 := hb.size
  have h3 := hb1.size
  exact ⟨⟨none, 0, none, 0, [], hb1.trans ((hb.alloc hb.size _).mono hb1.size), (var_keep v0 hb).alloc _, Var.new _ _ _, Row.nil_, rfl, World.ownsRow_nil _ _ _ _, by simp, by omega, by omega⟩, hb.alloc hb.size _⟩
theorem rendB {w w1 w2 : World} (hb1 : Below w.heap.size w w1) (v0 : Var w1 w.heap.size #[.int .i64 0, .int .i64 0, .slice none 0 0, .slice none 0 0, .int .i64 0] 42) (hb : Below w1.heap.size w1 w2) (vk : Var w2 w1.heap.size #[.int .i64 0, .int .i64 0, .slice none 0 0, .slice none 0 0, .int .i64 0] 42) (k : Int) :
    REnd w (((((w2.setCell ⟨w1.heap.size, 0, none⟩ (.int .i64 k)).setCell ⟨w1.heap.size, 1, none⟩ (.int .i64 0)).setCell ⟨w1.heap.size, 2, none⟩ (.slice none 0 0)).setCell ⟨w1.heap.size, 3, none⟩ (.slice none 0 0)).setCell ⟨w1.heap.size, 4, none⟩ (.int .i64 0)) w1.heap.size w1.heap.size ⟨k, 0, [], [], 0⟩ ∧
    Below w1.heap.size w1 (((((w2.setCell ⟨w1.heap.size, 0, none⟩ (.int .i64 k)).setCell ⟨w1.heap.size, 1, none⟩ (.int .i64 0)).setCell ⟨w1.heap.size, 2, none⟩ (.slice none 0 0)).setCell ⟨w1.heap.size, 3, none⟩ (.slice none 0 0)).setCell ⟨w1.heap.size, 4, none⟩ (.int .i64 0)) := by
  have h1 := v0.lt
  have h2 := hb.size
  have h3 := hb1.size
  obtain ⟨p1, p2⟩ := put5 vk (.int .i64 k) (.int .i64 0) (.slice none 0 0) (.slice none 0 0) (.int .i64 0)
  have hb2 := below_grown hb p2 hb.size (Nat.le_refl _)
  exact ⟨⟨none, 0, none, 0, [], hb1.trans (hb2.mono hb1.size), var_stay (var_keep v0 hb) p2 (by omega), p1, Row.nil_, rfl, World.ownsRow_nil _ _ _ _, by simp, by omega, Nat.le_refl _⟩, hb2⟩
set_option maxHeartbeats 16000000 in
set_option maxRecDepth 100000 in
theorem rreadEnd_any (s : St.W) (hs : s.length ≤ 8000) (w : World) :
    Calls Tryz.prog 75 #[.string ⟨s.toArray⟩] w fun e w' => EndOut w.heap.size (St.rfinP s) e w' ∧ Below w.heap.size w w' := by
  have HW := Lib.hid (fun W => rwords_any s (by omega) W)
  have hwl := St.words_len s
  have hwc := St.words_count s
  obtain ⟨R, hR⟩ : ∃ x, St.rfinP s = x := ⟨_, rfl⟩
  rw [hR]
  unfold St.rfinP at hR
  obtain ⟨L, hL⟩ : ∃ x, St.words s = x := ⟨_, rfl⟩
  rw [hL] at HW hR hwl hwc
  clear hL
  have HB0 := Lib.hid ((Below.refl w.heap.size w).alloc (Nat.le_refl _) (.cells #[.int .i64 0, .int .i64 0, .slice none 0 0, .slice none 0 0, .int .i64 0] 42))
  have HV0 := Lib.hid (Var.new w #[.int .i64 0, .int .i64 0, .slice none 0 0, .slice none 0 0, .int .i64 0] 42)
  rcases L with _ | ⟨a, _ | ⟨b, _ | ⟨e0, _ | ⟨c, t⟩⟩⟩⟩
  · have HR : Hid (R = (St.fin0z, false)) := Lib.hid (by rw [← hR])
    clear hR hwl hwc
    go_enter Tryz.func75, Tryz.ntmps75
    go_wp2_with (go_at_call 32; refine (HW.out _).mono ?_; rintro e w1 ⟨⟨v1, rfl, A1, c1, rfl, hr1, hc1⟩, hb⟩; have hb1 := HB0.out.trans (hb.mono (by simp)); have v0 := HV0.out.below hb (by simp); have hlt := v0.lt; obtain ⟨⟨z0, z1, z2, z3, z4⟩, y0, y1, y2, y3, y4⟩ := cells5' v0)
    have hp := put5 v0 (.int .i64 0) (.int .i64 0) (.slice none 0 0) (.slice none 0 0) (.int .i64 0)
    refine bodyPost_ret (results_cell_row_tmp rfl _ _ w.heap.size _ #[.int .i64 0, .int .i64 0, .slice none 0 0, .slice none 0 0, .int .i64 0] (0, 0) _ rfl hp.1 Tryz.underlying42 rfl (by kernel_rfl)) rfl ?_
    rw [HR.out]
    exact ⟨⟨none, 0, none, 0, rfl, RdT.nil_, RdT.nil_⟩, below_grown hb1 hp.2 hb1.size (Nat.le_refl _)⟩
  · have HR : Hid (R = (St.fin0z, false)) := Lib.hid (by rw [← hR])
    clear hR hwl hwc
    go_enter Tryz.func75, Tryz.ntmps75
    go_wp2_with (go_at_call 32; refine (HW.out _).mono ?_; rintro e w1 ⟨⟨v1, rfl, A1, c1, rfl, hr1, hc1⟩, hb⟩; have hb1 := HB0.out.trans (hb.mono (by simp)); have v0 := HV0.out.below hb (by simp); have hlt := v0.lt; obtain ⟨⟨z0, z1, z2, z3, z4⟩, y0, y1, y2, y3, y4⟩ := cells5' v0)
    have hp := put5 v0 (.int .i64 0) (.int .i64 0) (.slice none 0 0) (.slice none 0 0) (.int .i64 0)
    refine bodyPost_ret (results_cell_row_tmp rfl _ _ w.heap.size _ #[.int .i64 0, .int .i64 0, .slice none 0 0, .slice none 0 0, .int .i64 0] (0, 0) _ rfl hp.1 Tryz.underlying42 rfl (by kernel_rfl)) rfl ?_
    rw [HR.out]
    exact ⟨⟨none, 0, none, 0, rfl, RdT.nil_, RdT.nil_⟩, below_grown hb1 hp.2 hb1.size (Nat.le_refl _)⟩
  · have HR : Hid (R = (St.fin0z, false)) := Lib.hid (by rw [← hR])
    clear hR hwl hwc
    go_enter Tryz.func75, Tryz.ntmps75
    go_wp2_with (go_at_call 32; refine (HW.out _).mono ?_; rintro e w1 ⟨⟨v1, rfl, A1, c1, rfl, hr1, hc1⟩, hb⟩; have hb1 := HB0.out.trans (hb.mono (by simp)); have v0 := HV0.out.below hb (by simp); have hlt := v0.lt; obtain ⟨⟨z0, z1, z2, z3, z4⟩, y0, y1, y2, y3, y4⟩ := cells5' v0)
    have hp := put5 v0 (.int .i64 0) (.int .i64 0) (.slice none 0 0) (.slice none 0 0) (.int .i64 0)
    refine bodyPost_ret (results_cell_row_tmp rfl _ _ w.heap.size _ #[.int .i64 0, .int .i64 0, .slice none 0 0, .slice none 0 0, .int .i64 0] (0, 0) _ rfl hp.1 Tryz.underlying42 rfl (by kernel_rfl)) rfl ?_
    rw [HR.out]
    exact ⟨⟨none, 0, none, 0, rfl, RdT.nil_, RdT.nil_⟩, below_grown hb1 hp.2 hb1.size (Nat.le_refl _)⟩
  · have HR : Hid (R = (St.fin0z, false)) := Lib.hid (by rw [← hR])
    clear hR hwl hwc
    go_enter Tryz.func75, Tryz.ntmps75
    go_wp2_with (go_at_call 32; refine (HW.out _).mono ?_; rintro e w1 ⟨⟨v1, rfl, A1, c1, rfl, hr1, hc1⟩, hb⟩; have hb1 := HB0.out.trans (hb.mono (by simp)); have v0 := HV0.out.below hb (by simp); have hlt := v0.lt; obtain ⟨⟨z0, z1, z2, z3, z4⟩, y0, y1, y2, y3, y4⟩ := cells5' v0)
    have hp := put5 v0 (.int .i64 0) (.int .i64 0) (.slice none 0 0) (.slice none 0 0) (.int .i64 0)
    refine bodyPost_ret (results_cell_row_tmp rfl _ _ w.heap.size _ #[.int .i64 0, .int .i64 0, .slice none 0 0, .slice none 0 0, .int .i64 0] (0, 0) _ rfl hp.1 Tryz.underlying42 rfl (by kernel_rfl)) rfl ?_
    rw [HR.out]
    exact ⟨⟨none, 0, none, 0, rfl, RdT.nil_, RdT.nil_⟩, below_grown hb1 hp.2 hb1.size (Nat.le_refl _)⟩
  dsimp only at hR
  have x0 : ¬ ((t.length : Int) + 1 + 1 + 1 + 1 < 4) := by omega
  by_cases ha : a = []
  case neg =>
    rw [if_neg (fun h => ha h.1)] at hR
    have q1 : (a == ([] : List UInt8)) = false := beq_eq_false_iff_ne.2 ha
    have HR : Hid (R = (St.fin0z, false)) := Lib.hid (by rw [← hR])
    clear hR hwl hwc
    go_enter Tryz.func75, Tryz.ntmps75
    go_wp2_with (go_at_call 32; refine (HW.out _).mono ?_; rintro e w1 ⟨⟨v1, rfl, A1, c1, rfl, hr1, hc1⟩, hb⟩; have hb1 := HB0.out.trans (hb.mono (by simp)); have v0 := HV0.out.below hb (by simp); have hlt := v0.lt; obtain ⟨⟨z0, z1, z2, z3, z4⟩, y0, y1, y2, y3, y4⟩ := cells5' v0; obtain ⟨g, o, rfl, hg, hc⟩ := hr1 (by simp); have f0 := hc 0 (by simp) 0 _ rfl; have f1 := hc 1 (by simp) 0 _ rfl; have f2 := hc 2 (by simp) 0 _ rfl; simp only [Nat.zero_mul, Nat.add_zero, Nat.mul_one, List.getElem_cons_zero, List.getElem_cons_succ] at f0 f1 f2)
    have hp := put5 v0 (.int .i64 0) (.int .i64 0) (.slice none 0 0) (.slice none 0 0) (.int .i64 0)
    refine bodyPost_ret (results_cell_row_tmp rfl _ _ w.heap.size _ #[.int .i64 0, .int .i64 0, .slice none 0 0, .slice none 0 0, .int .i64 0] (0, 0) _ rfl hp.1 Tryz.underlying42 rfl (by kernel_rfl)) rfl ?_
    rw [HR.out]
    exact ⟨⟨none, 0, none, 0, rfl, RdT.nil_, RdT.nil_⟩, below_grown hb1 hp.2 hb1.size (Nat.le_refl _)⟩
  subst ha
  by_cases hb0 : b = []
  case neg =>
    rw [if_neg (fun h => hb0 h.2.1)] at hR
    have q1 : (b == ([] : List UInt8)) = false := beq_eq_false_iff_ne.2 hb0
    have HR : Hid (R = (St.fin0z, false)) := Lib.hid (by rw [← hR])
    clear hR hwl hwc
    go_enter Tryz.func75, Tryz.ntmps75
    go_wp2_with (go_at_call 32; refine (HW.out _).mono ?_; rintro e w1 ⟨⟨v1, rfl, A1, c1, rfl, hr1, hc1⟩, hb⟩; have hb1 := HB0.out.trans (hb.mono (by simp)); have v0 := HV0.out.below hb (by simp); have hlt := v0.lt; obtain ⟨⟨z0, z1, z2, z3, z4⟩, y0, y1, y2, y3, y4⟩ := cells5' v0; obtain ⟨g, o, rfl, hg, hc⟩ := hr1 (by simp); have f0 := hc 0 (by simp) 0 _ rfl; have f1 := hc 1 (by simp) 0 _ rfl; have f2 := hc 2 (by simp) 0 _ rfl; simp only [Nat.zero_mul, Nat.add_zero, Nat.mul_one, List.getElem_cons_zero, List.getElem_cons_succ] at f0 f1 f2)
    have hp := put5 v0 (.int .i64 0) (.int .i64 0) (.slice none 0 0) (.slice none 0 0) (.int .i64 0)
    refine bodyPost_ret (results_cell_row_tmp rfl _ _ w.heap.size _ #[.int .i64 0, .int .i64 0, .slice none 0 0, .slice none 0 0, .int .i64 0] (0, 0) _ rfl hp.1 Tryz.underlying42 rfl (by kernel_rfl)) rfl ?_
    rw [HR.out]
    exact ⟨⟨none, 0, none, 0, rfl, RdT.nil_, RdT.nil_⟩, below_grown hb1 hp.2 hb1.size (Nat.le_refl _)⟩
  subst hb0
  by_cases he0 : e0 = St.lEnd
  case neg =>
    rw [if_neg (fun h => he0 h.2.2)] at hR
    unfold St.lEnd at he0
    have q1 : (e0 == ([101, 110, 100] : List UInt8)) = false := beq_eq_false_iff_ne.2 he0
    have q2 := beq_no he0
    have q3 := bne_no he0
    have HR : Hid (R = (St.fin0z, false)) := Lib.hid (by rw [← hR])
    clear hR hwl hwc
    go_enter Tryz.func75, Tryz.ntmps75
    go_wp2_with (go_at_call 32; refine (HW.out _).mono ?_; rintro e w1 ⟨⟨v1, rfl, A1, c1, rfl, hr1, hc1⟩, hb⟩; have hb1 := HB0.out.trans (hb.mono (by simp)); have v0 := HV0.out.below hb (by simp); have hlt := v0.lt; obtain ⟨⟨z0, z1, z2, z3, z4⟩, y0, y1, y2, y3, y4⟩ := cells5' v0; obtain ⟨g, o, rfl, hg, hc⟩ := hr1 (by simp); have f0 := hc 0 (by simp) 0 _ rfl; have f1 := hc 1 (by simp) 0 _ rfl; have f2 := hc 2 (by simp) 0 _ rfl; simp only [Nat.zero_mul, Nat.add_zero, Nat.mul_one, List.getElem_cons_zero, List.getElem_cons_succ] at f0 f1 f2)
    have hp := put5 v0 (.int .i64 0) (.int .i64 0) (.slice none 0 0) (.slice none 0 0) (.int .i64 0)
    refine bodyPost_ret (results_cell_row_tmp rfl _ _ w.heap.size _ #[.int .i64 0, .int .i64 0, .slice none 0 0, .slice none 0 0, .int .i64 0] (0, 0) _ rfl hp.1 Tryz.underlying42 rfl (by kernel_rfl)) rfl ?_
    rw [HR.out]
    exact ⟨⟨none, 0, none, 0, rfl, RdT.nil_, RdT.nil_⟩, below_grown hb1 hp.2 hb1.size (Nat.le_refl _)⟩
  subst he0
  rw [if_pos ⟨rfl, rfl, rfl⟩] at hR
  have hkl : St.endW.length = 5 := by decide +kernel
  have HPl := Lib.hid (fun A W (h : RdS W W.heap.size A 1 encS St.endW) => rplace_any A 5 5 St.endW hkl (by omega) c W h)
  have hkr : 0 ≤ St.idx St.endW c → St.idx St.endW c < 5 := fun h => by
    obtain ⟨i, hi, e, -⟩ := St.word_get (St.idx_word h).1
    omega
  obtain ⟨k, hk⟩ : ∃ x, St.idx St.endW c = x := ⟨_, rfl⟩
  rw [hk] at hR HPl hkr
  have HKR := Lib.hid hkr
  clear hkr
  have HR := Lib.hid hR
  clear hR hk hkl
  unfold St.lEnd at HW
  go_enter Tryz.func75, Tryz.ntmps75
  go_upto_region 4 with (go_at_call 32; refine (HW.out _).mono ?_; rintro e w1 ⟨⟨v1, rfl, A1, c1, rfl, hr1, hc1⟩, hb⟩; have hb1 := HB0.out.trans (hb.mono (by simp)); have v0 := HV0.out.below hb (by simp); have hlt := v0.lt; obtain ⟨g, o, rfl, hg, hc⟩ := hr1 (by simp); have f0 := hc 0 (by simp) 0 _ rfl; have f1 := hc 1 (by simp) 0 _ rfl; have f2 := hc 2 (by simp) 0 _ rfl; have f3 := hc 3 (by simp) 0 _ rfl; simp only [Nat.zero_mul, Nat.add_zero, Nat.mul_one, List.getElem_cons_zero, List.getElem_cons_succ] at f0 f1 f2 f3; have HR1 := Lib.hid hr1; have HB1 := Lib.hid hb1; have HV1 := Lib.hid v0; simp only [List.length_cons] at hc1; clear hr1 hc hb hb1 v0)
  go_cut [5] from 6 (fun s5 wx => ∃ Kx, s5 = .pointer (some ⟨Kx, 0, none⟩) ∧ REnd w wx w1.heap.size Kx ⟨k, 0, [], [], 0⟩ ∧ Below w1.heap.size w1 wx)
  case first =>
    clear HR
    -- Q<
    go_region_with (first
      | (go_at_call 44; refine (rends_any _).mono ?_; rintro e w2 ⟨⟨A2, rfl, hrd⟩, hb⟩; have hsz := hb.size; simp at hsz; have hg2 : g < w2.heap.size := (by omega); have f3' : w2.cell? ⟨g, o + 3, none⟩ = some (.string ⟨c.toArray⟩) := (by first | exact (hb.cell (p := ⟨g, o + 3, none⟩) hg).trans f3 | exact (hb.cell (p := ⟨g, o + 3, none⟩) (by simp; omega)).trans ((((Below.refl w1.heap.size w1).alloc (Nat.le_refl _) _).cell (p := ⟨g, o + 3, none⟩) hg).trans f3)); (try (have vk : Var w2 w1.heap.size #[.int .i64 0, .int .i64 0, .slice none 0 0, .slice none 0 0, .int .i64 0] 42 := var_keep (Var.new w1.drew #[.int .i64 0, .int .i64 0, .slice none 0 0, .slice none 0 0, .int .i64 0] 42) hb; obtain ⟨⟨k0, k1, k2, k3, k4⟩, r0, r1, r2, r3, r4⟩ := cells5' vk; have hlk := vk.lt)))
      | (go_at_call 102; (first | refine (HPl.out _ _ hrd).mono ?_ | refine (HPl.out _ _ (hrd.on ((Below.refl _ _).alloc (Nat.le_refl _) _))).mono ?_); rintro e w3 ⟨rfl, rfl⟩))
    all_goals go_wp2
    all_goals go_meet
    all_goals first
      | exact ⟨_, rfl, rendA HB1.out HV1.out ⟨hb.os, hb.tape, hb.output, hb.size, hb.block⟩ k⟩
      | exact ⟨_, rfl, rendB HB1.out HV1.out (((Below.refl w1.heap.size w1).alloc (Nat.le_refl _) (.cells #[.int .i64 0, .int .i64 0, .slice none 0 0, .slice none 0 0, .int .i64 0] 42)).trans (Below.mono ⟨hb.os, hb.tape, hb.output, hb.size, hb.block⟩ (by simp))) vk k⟩
    -- Q>
  case rest =>
  obtain ⟨Kx, rfl, S, hbx⟩ := hcut
  have hsl := HR1.out.below hbx
  obtain ⟨N, hN⟩ : ∃ N, w1.heap.size = N := ⟨_, rfl⟩
  rw [hN] at S hsl
  clear hbx f0 f1 f2 f3 HV1 HB1 HPl HW HV0 HB0 HR1 hlt hN
  have htl : t.length ≤ 9000 := by simp at hwc; omega
  have hwt : ∀ u ∈ t, u.length ≤ 1000000 := fun u hu => by have := hwl u (by simp [hu]); omega
  clear hwl hwc
  have HD := Lib.hid (fun (A' : Option Addr) (c' : Nat) hc hA => Sl.drop (A := some ⟨g, o, none⟩) (l := [] :: [] :: [101, 110, 100] :: c :: t) (k := 4) (c' := c') hsl (by simp) hc (A' := A') hA)
  simp only [List.length_cons, List.drop_succ_cons, List.drop_zero] at HD
  clear hsl
  go_step
  go_step
  go_cut [4] from 6 (fun s4 wx => REnd w wx N Kx ⟨k, 0, [], [], 0⟩ ∧ SlB wx N s4 t)
  case first =>
    clear HR
    go_wp2
    all_goals go_meet
    all_goals exact ⟨S, HD.out _ _ (by omega) (by first | exact .inl (List.eq_nil_of_length_eq_zero (by omega)) | exact .inr (fun g o e => by cases e; rfl))⟩
  case rest =>
  clear S HD hg hc1
  obtain ⟨S, hsl⟩ := hcut
  have hxok := St.rfinG_ok k t htl
  have hRG : R = ((St.rfinG k t).1, (St.rfinG k t).2 && (decide (0 ≤ k) && St.finR (St.rfinG k t).1 == s ++ [10])) := by
    rw [← HR.out]; unfold St.rfinG
    generalize St.redges _ _ = Z
    cases Z <;> simp
  clear HR
  unfold St.rfinG at hRG hxok
  have HO1 := Lib.hid (rone_any _ t hwt St.lOn _ hsl)
  have hsub1 := St.oneR_sub t St.lOn
  obtain ⟨⟨l1, v1⟩, h1⟩ : ∃ x, St.oneR t St.lOn = x := ⟨_, rfl⟩
  have hw1 : ∀ u ∈ l1, u.length ≤ 1000000 := fun u hu => hwt u (by rw [h1] at hsub1; exact hsub1.1 u hu)
  have hl1 : l1.length ≤ 9000 := by rw [h1] at hsub1; exact Nat.le_trans hsub1.2 htl
  rw [h1] at hRG hxok HO1
  dsimp only at hRG hxok HO1
  have HS1 := Lib.hid (fun v W hB h => rsomeB_any v l1 (by omega) hw1 St.lOf W (B := N) hB h)
  have hsub2 := St.someR_sub l1 St.lOf
  obtain ⟨⟨l2, v2⟩, h2⟩ : ∃ x, St.someR l1 St.lOf = x := ⟨_, rfl⟩
  have hw2 : ∀ u ∈ l2, u.length ≤ 1000000 := fun u hu => hw1 u (by rw [h2] at hsub2; exact hsub2.1 u hu)
  have hl2 : l2.length ≤ 9000 := by rw [h2] at hsub2; exact Nat.le_trans hsub2.2 hl1
  rw [h2] at hRG hxok HS1
  dsimp only at hRG hxok HS1
  unfold St.lOn at HO1
  unfold St.lOf at HS1
  have HW2 := Lib.hid hw2
  clear h1 h2 hsub1 hsub2 hwt hw1 hl1 hw2
  obtain ⟨Z, hZ⟩ : ∃ Z, St.redges l2.length l2 = Z := ⟨_, rfl⟩
  rw [hZ] at hRG hxok
  have HZ0 := Lib.hid hZ
  have HIN := Lib.hid hRG
  have HOK := Lib.hid hxok
  clear hRG hxok hZ
  obtain ⟨A0, c0, B0, d0, L0, S0⟩ := S
  have hNx := Nat.le_trans S0.l2 (Nat.le_of_lt S0.cur.lt)
  go_upto_region 8 with (first
    | (go_at_call 105; with_reducible refine HO1.out.mono ?_; rintro e w2 ⟨⟨va, rfl, hsa⟩, rfl⟩; have HSA := Lib.hid hsa; clear hsa HO1 hsl)
    | (go_at_call 107; with_reducible refine (HS1.out _ _ hNx HSA.out).mono ?_; rintro e w3 ⟨⟨vb, A5, c5, rfl, hsb, -, hrow, -⟩, hb⟩; have S1 := S0.below hb; have HSB := Lib.hid hsb; have hRow := hrow Kx S0.cur.lt; clear hsb hrow hb HS1 HSA S0 hNx))
  have q1 := (S1.cells 1 (by omega)).1
  obtain ⟨q0, q2⟩ := (S1.cells 1 (by omega)).2
  have q3 := S1.cur.lt
  have S2 := S1.setCond v1
  have hRow2 := hRow.stay (grown_set _ Kx 1 (.int .i64 v1)) (Nat.le_refl _)
  have HSB2 := Lib.hid (S1.sl HSB.out 1 (.int .i64 v1))
  go_upto_region 9 with fail
  clear q1 q0 q2 q3
  have q1 := (S2.cells 2 (by omega)).1
  obtain ⟨q0, q2⟩ := (S2.cells 2 (by omega)).2
  have q3 := S2.cur.lt
  have S3 := Lib.hid (S2.setArgs (c' := c5) hRow2).st
  have HSB3 := Lib.hid (S2.sl HSB2.out 2 (.slice A5 v2.length c5))
  clear S1 S2 hRow hRow2 HSB HSB2
  go_upto_block 0 with fail
  clear q1 q0 q2 q3
  go_cut [4] from 8 (fun s4 wx => ∃ es l, Hid (Z = some (es, l)) ∧ REnd w wx N Kx ⟨k, v1, v2, es, 0⟩ ∧ SlB wx N s4 l)
  case first =>
    obtain ⟨i0, hi0, hz0, hz1, hz2⟩ := info_parts info_sedge
    have HRn : Hid (Z = none → R = (St.fin0z, false)) := Lib.hid (fun h => by rw [HIN.out, h]; rfl)
    clear HIN HOK
    go_wp2_with fail
    go_loopw [4, 8, 9] (fun s4 s8 s9 wr => ∃ (es : List St.Edge) (rl : List St.W) (f : Nat), Hid (REnd w wr N Kx ⟨k, v1, v2, es, 0⟩) ∧ Hid (SlB wr N s4 rl) ∧ rl.length ≤ f ∧ es.length + rl.length ≤ 9000 ∧ Hid (SubL rl l2) ∧ Hid (Z = (St.redges f rl).map fun r => (es ++ r.1, r.2))) (fun s4 _ _ _ => lenOf s4)
    case atStart => exact ⟨[], l2, l2.length, S3, HSB3, Nat.le_refl _, by simp; omega, Lib.hid (SubL.refl _), Lib.hid (by rw [HZ0.out]; cases Z <;> simp)⟩
    case round =>
      clear S3 HSB3 HZ0
      obtain ⟨es, rl, f, HS, HSl, hf1, hf2, HSub, HZ⟩ := hrel
      obtain ⟨A0, c0, B0, d0, L0, S0⟩ := HS.out
      obtain ⟨A1, c1, rfl, hr, hc⟩ := HSl.out
      by_cases h0 : rl.head? = some St.lTo
      case neg =>
        have HZ2 : Hid (Z = some (es, rl)) := Lib.hid (by rw [HZ.out, St.redges_stop h0]; simp)
        rcases rl with _ | ⟨u, rt⟩
        · go_wp2_with fail
          go_meet
          exact ⟨es, [], HZ2, HS.out, HSl.out⟩
        · have hu : u ≠ St.lTo := fun e => h0 (by rw [e]; rfl)
          unfold St.lTo at hu
          have q1 := beq_no hu
          have q2 : (u == ([116, 111] : List UInt8)) = false := beq_eq_false_iff_ne.2 hu
          obtain ⟨g, o, rfl, hg, hh⟩ := hr.get (i := 0) (by simp)
          have f0 := hh 0 _ rfl
          simp only [Nat.zero_mul, Nat.add_zero, List.getElem_cons_zero] at f0
          have x1 : (0 : Int) < (rt.length : Int) + 1 := by omega
          clear hh hr h0
          go_wp2_with fail
          go_meet
          exact ⟨es, u :: rt, HZ2, HS.out, HSl.out⟩
      rcases rl with _ | ⟨u, rt⟩
      · cases h0
      obtain rfl : u = St.lTo := by simpa using h0
      obtain ⟨g, o, rfl, hg, hh⟩ := hr.get (i := 0) (by simp)
      have f0 := hh 0 _ rfl
      simp only [Nat.zero_mul, Nat.add_zero, List.getElem_cons_zero] at f0
      have x1 : (0 : Int) < (rt.length : Int) + 1 := by omega
      obtain ⟨f, rfl⟩ : ∃ f', f = f' + 1 := ⟨f - 1, by simp only [List.length_cons] at hf1; omega⟩
      have hwl : ∀ u ∈ St.lTo :: rt, u.length ≤ 1000000 := fun u hu => HW2.out u (HSub.out.1 u hu)
      have hNx := Nat.le_trans S0.l2 (Nat.le_of_lt S0.cur.lt)
      have HSm := Lib.hid (rsomeB_any _ (St.lTo :: rt) (by omega) hwl St.lTo wr hNx HSl.out)
      have hsub := St.someR_sub (St.lTo :: rt) St.lTo
      obtain ⟨⟨m, zs⟩, hs⟩ : ∃ x, St.someR (St.lTo :: rt) St.lTo = x := ⟨_, rfl⟩
      have hlt := St.someR_lt h0 hs
      rw [hs] at HSm hsub
      dsimp only at HSm hsub
      simp only [List.length_cons] at hlt hf1 hf2
      have HSub2 := Lib.hid (hsub.trans HSub.out)
      unfold St.lTo at f0 HSm
      simp only [List.length_cons] at HSm hc
      clear hh hr HSl HSub hsub hwl HS
      rcases zs with _ | ⟨z, zs⟩
      · have HR2 := Lib.hid (HRn.out (by rw [HZ.out, St.redges_none h0 hs]; rfl))
        clear hs h0 HZ HSub2
        obtain ⟨⟨z0, z1, z2, z3, z4⟩, y0, y1, y2, y3, y4⟩ := cells5' S0.res
        go_wp2_with ((go_at_call 107; with_reducible refine HSm.out.mono ?_; rintro e w3 ⟨⟨vb, A5, c5, rfl, hsb, -, hrow, hcap⟩, hb⟩; have S1 := S0.below hb; have HSB := Lib.hid hsb; obtain ⟨⟨z0, z1, z2, z3, z4⟩, y0, y1, y2, y3, y4⟩ := cells5' S1.res; clear hsb hrow))
        have hp := put5 S1.res (.int .i64 0) (.int .i64 0) (.slice none 0 0) (.slice none 0 0) (.int .i64 0)
        refine bodyPost_ret (results_cell_row_tmp rfl _ _ w.heap.size _ #[.int .i64 0, .int .i64 0, .slice none 0 0, .slice none 0 0, .int .i64 0] (0, 0) _ rfl hp.1 Tryz.underlying42 rfl (by kernel_rfl)) rfl ?_
        rw [HR2.out]
        exact ⟨⟨none, 0, none, 0, rfl, RdT.nil_, RdT.nil_⟩, below_grown S1.bel hp.2 S1.bel.size (Nat.le_refl _)⟩
      · have hZ := HZ.out
        rw [St.redges_some h0 hs] at hZ
        have HZ := Lib.hid hZ
        clear hs h0 hZ HRn
        simp only [List.length_cons] at hlt
        go_upto_region 14 with (go_at_call 107; with_reducible refine HSm.out.mono ?_; rintro e w3 ⟨⟨vb, A5, c5, rfl, hsb, -, hrow, hcap⟩, hb⟩; have S1 := S0.below hb; have HSB := Lib.hid hsb; have hRow := hrow Kx S0.cur.lt; clear hsb hrow hb HSm S0 hNx f0)
        obtain ⟨g5, o5, rfl, hg5, hh5⟩ := hRow.1.get (i := 0) (by simp)
        have f5 : (World.drew w3).cell? ⟨g5, o5, none⟩ = some (.int .i64 z) := hh5 0 _ rfl
        have hgk := (hRow.2 g5 o5 rfl).1
        simp only [List.length_cons] at hcap
        have SD : REndAt w (World.drew w3) N Kx ⟨k, v1, v2, es, 0⟩ A0 c0 B0 d0 L0 := S1.below (below_drewN w3 1)
        have HSD : Hid (SlB (World.drew w3) N vb m) := HSB
        have hRD : Row (World.drew w3) Kx (some ⟨g5, o5, none⟩) (z :: zs) := hRow
        have c3 : (World.drew w3).cell? ⟨Kx, 3, none⟩ = some (.slice B0 L0.length d0) := SD.cur.cells 3
        have HLe : Hid (L0.length = es.length) := Lib.hid (by have := congrArg List.length SD.ed; simpa using this)
        clear hh5 S1 HSB hRow
        by_cases hc1 : c5 = 1
        · obtain rfl : zs = [] := List.eq_nil_of_length_eq_zero (by omega)
          subst hc1
          have hrt := hRD.tail (o' := o5) (.inl rfl)
          -- Q<
          refine wp_region_held_drew (S := (fun W' => W'.cell? ⟨g5, o5, none⟩ = some (.int .i64 z))) (by kernel_rfl) ?_ (fun hHeld0 => ?_)
          · first | assumption | go_keep
          refine tk (i := 0) (oi := ⟨some 75, .fieldAddr 42 (.tmp 5) 3, 0, "ref.go:270", #[], none⟩) rfl ?_; (try simp only [Act.put, List.setIfInBounds_toArray, List.set_cons_succ, List.set_cons_zero])
          refine tk (i := 2) (oi := ⟨some 77, .move (.tmp 9), 37, "ref.go:270", #[], none⟩) rfl ?_; (try simp only [Act.put, List.setIfInBounds_toArray, List.set_cons_succ, List.set_cons_zero])
          refine tk (i := 3) (oi := ⟨some 78, .indexAddr 37 (.tmp 77) (.const (.int .i64 0)), 0, "ref.go:270", #[⟨2, .data⟩], none⟩) rfl ?_; (try simp only [Act.put, List.setIfInBounds_toArray, List.set_cons_succ, List.set_cons_zero])
          refine tk (i := 4) (oi := ⟨some 79, .load 3 (.tmp 78), 3, "ref.go:270", #[⟨3, .data⟩], none⟩) rfl ?_; (try simp only [Act.put, List.setIfInBounds_toArray, List.set_cons_succ, List.set_cons_zero])
          refine tk (i := 5) (oi := ⟨some 80, .move (.tmp 9), 37, "ref.go:270", #[], none⟩) rfl ?_; (try simp only [Act.put, List.setIfInBounds_toArray, List.set_cons_succ, List.set_cons_zero])
          refine tk (i := 6) (oi := ⟨some 81, .slice 37 (.tmp 80) (some (.const (.int .i64 1))) none none, 37, "ref.go:270", #[⟨5, .data⟩], none⟩) rfl ?_; (try simp only [Act.put, List.setIfInBounds_toArray, List.set_cons_succ, List.set_cons_zero])
          refine tk (i := 7) (oi := ⟨some 82, .build 50 #[(0, .tmp 79), (1, .tmp 81)], 50, "ref.go:270", #[⟨4, .data⟩, ⟨6, .data⟩], none⟩) rfl ?_; (try simp only [Act.put, List.setIfInBounds_toArray, List.set_cons_succ, List.set_cons_zero])
          refine wpAnyH_ready (rs := [1, 8]) (by kernel_rfl) (by simp) ?_
          refine (AllReadyH.cons (o := ⟨some 76, .load 39 (.tmp 75), 39, "ref.go:270", #[⟨0, .data⟩], none⟩) rfl (fun K hK => ?_) (AllReadyH.cons (o := ⟨some 83, .buildSlice 39 1 #[(0, .tmp 82)], 39, "ref.go:270", #[⟨7, .data⟩], none⟩) rfl (fun K hK => ?_) AllReadyH.nil))
          · skip
            go_simp
            skip
            (try dsimp only)
            refine hK.out _ _ ?_ (fun hHeld1 => ?_)
            · first | trivial | ((try dsimp only); first | assumption | trivial | go_keep)
            clear hK K hHeld0
            (try simp only [Act.put, List.setIfInBounds_toArray, List.set_cons_succ, List.set_cons_zero])
            refine wpAnyH_ready (rs := [8]) (by kernel_rfl) (by simp) ?_
            refine (AllReadyH.cons (o := ⟨some 83, .buildSlice 39 1 #[(0, .tmp 82)], 39, "ref.go:270", #[⟨7, .data⟩], none⟩) rfl (fun K hK => ?_) AllReadyH.nil)
            go_simp
            (have hbX : Below (World.drew w3).heap.size (World.drew w3) (World.drew (w3.alloc (.cells #[.int .i64 z, .slice (some ⟨g5, o5, none⟩) 0 0] 50))) := (Below.refl _ (World.drew w3)).alloc (Nat.le_refl _) (.cells #[.int .i64 z, .slice (some ⟨g5, o5, none⟩) 0 0] 50); have S4 := SD.below hbX; have hrow4 := hrt.below hbX; have hR4 := hRD.below hbX; have HS4 := Lib.hid (HSD.out.below (hbX.mono (Nat.le_trans SD.l2 (Nat.le_of_lt SD.cur.lt)))); have c3'' : (w3.alloc (.cells #[.int .i64 z, .slice (some ⟨g5, o5, none⟩) 0 0] 50)).cell? ⟨Kx, 3, none⟩ = some (.slice B0 L0.length d0) := S4.cur.cells 3; have f5'' : (w3.alloc (.cells #[.int .i64 z, .slice (some ⟨g5, o5, none⟩) 0 0] 50)).cell? ⟨g5, o5, none⟩ = some (.int .i64 z) := hR4.head; clear hbX)
            (try dsimp only)
            refine hK.out _ _ ?_ (fun hHeld2 => ?_)
            · first | trivial | ((try dsimp only); first | assumption | trivial | go_keep)
            clear hK K hHeld1
            (try simp only [Act.put, List.setIfInBounds_toArray, List.set_cons_succ, List.set_cons_zero])
            refine wpAnyH_ready (rs := [9]) (by kernel_rfl) (by simp) ?_
            refine (AllReadyH.cons (o := ⟨some 84, .call { callee := .builtin .append, args := #[.tmp 76, .tmp 83], argTypes := #[39, 39] }, 39, "ref.go:270", #[⟨1, .data⟩, ⟨8, .data⟩], none⟩) rfl (fun K hK => ?_) AllReadyH.nil)
            (refine step_app Tryz.underlying39 hi0 hz0 hz1 hz2 rfl (by omega) encE_len encE_one _ rfl (.tmp 76) (.tmp 83) rfl (Kx + 1) (.slice B0 L0.length d0) L0.length L0 (by rfl) S4.own [((⟨z, ([] : List Int)⟩ : St.Edge), some ⟨g5, o5, none⟩, 0)] 1 1 _ rfl (by rfl) (one_edge w3 ((⟨z, ([] : List Int)⟩ : St.Edge), some ⟨g5, o5, none⟩, 0)) (by have := HLe.out; omega) (by omega) (by have := S4.cur.lt; omega) ?_; intro A' c' w5 own5 hg5'; have V5 := var_grown S4.cur S4.own (by decide) hg5'; have S5 := S4.app (p := ((⟨z, ([] : List Int)⟩ : St.Edge), some ⟨g5, o5, none⟩, 0)) hrow4 own5 hg5'; have HS5 := Lib.hid (S4.slApp (Nat.le_trans S4.l2 (Nat.le_of_lt S4.cur.lt)) hg5' HS4.out (.slice A' (L0.length + 1) c')); have e3 : w5.cell? ⟨Kx, 3, none⟩ = some (.slice B0 L0.length d0) := V5.cells 3; have z3 := V5.froz 3; have l3 := V5.lt; have hR5 := hR4.apart S4.own (by decide) hg5'; have f5' : w5.cell? ⟨g5, o5, none⟩ = some (.int .i64 z) := hR5.head; have f6 : (w5.setCell ⟨Kx, 3, none⟩ (.slice A' (L0.length + 1) c')).cell? ⟨g5, o5, none⟩ = some (.int .i64 z) := (hR5.stay (grown_set _ Kx 3 _) (Nat.le_refl _)).head)
            (try dsimp only)
            refine hK.out _ _ ?_ (fun hHeld3 => ?_)
            · first | trivial | ((try dsimp only); first | assumption | trivial | go_keep)
            clear hK K hHeld2
            (try simp only [Act.put, List.setIfInBounds_toArray, List.set_cons_succ, List.set_cons_zero])
            refine tk (i := 10) (oi := ⟨some 85, .fieldAddr 42 (.tmp 5) 3, 0, "ref.go:270", #[⟨0, .phase⟩, ⟨1, .phase⟩, ⟨2, .phase⟩, ⟨3, .phase⟩, ⟨4, .phase⟩, ⟨5, .phase⟩, ⟨6, .phase⟩, ⟨7, .phase⟩, ⟨8, .phase⟩, ⟨9, .phase⟩], none⟩) rfl ?_; (try simp only [Act.put, List.setIfInBounds_toArray, List.set_cons_succ, List.set_cons_zero])
            refine wpAnyH_ready (rs := [11]) (by kernel_rfl) (by simp) ?_
            refine (AllReadyH.cons (o := ⟨none, .store 39 (.tmp 85) (.tmp 84), 0, "ref.go:270", #[⟨10, .data⟩, ⟨9, .data⟩, ⟨9, .chain⟩, ⟨0, .phase⟩, ⟨1, .phase⟩, ⟨2, .phase⟩, ⟨3, .phase⟩, ⟨4, .phase⟩, ⟨5, .phase⟩, ⟨6, .phase⟩, ⟨7, .phase⟩, ⟨8, .phase⟩, ⟨9, .phase⟩], none⟩) rfl (fun K hK => ?_) AllReadyH.nil)
            go_simp
            skip
            (try dsimp only)
            refine hK.out _ _ ?_ (fun hHeld4 => ?_)
            · first | trivial | ((try dsimp only); first | assumption | trivial | go_keep)
            clear hK K hHeld3
            (try simp only [Act.put, List.setIfInBounds_toArray, List.set_cons_succ, List.set_cons_zero])
            refine wpAnyH_done (by kernel_rfl) ?_ _
            (try dsimp only)
            repeat (first | go_values | go_skip | go_guarded | go_step | go_upon)
            go_roundw
            case rel => exact ⟨es ++ [⟨z, ([] : List Int)⟩], m, f, Lib.hid S5.st, HS5, by omega, by simp; omega, HSub2, Lib.hid (by rw [HZ.out, Option.map_map]; congr 1; funext r; simp)⟩
            case measure => (obtain ⟨A9, c9, rfl, -, -⟩ := HS5.out; simp [lenOf]; omega)
          · skip
            go_simp
            (have hbX : Below (World.drew w3).heap.size (World.drew w3) (World.drew (w3.alloc (.cells #[.int .i64 z, .slice (some ⟨g5, o5, none⟩) 0 0] 50))) := (Below.refl _ (World.drew w3)).alloc (Nat.le_refl _) (.cells #[.int .i64 z, .slice (some ⟨g5, o5, none⟩) 0 0] 50); have S4 := SD.below hbX; have hrow4 := hrt.below hbX; have hR4 := hRD.below hbX; have HS4 := Lib.hid (HSD.out.below (hbX.mono (Nat.le_trans SD.l2 (Nat.le_of_lt SD.cur.lt)))); have c3'' : (w3.alloc (.cells #[.int .i64 z, .slice (some ⟨g5, o5, none⟩) 0 0] 50)).cell? ⟨Kx, 3, none⟩ = some (.slice B0 L0.length d0) := S4.cur.cells 3; have f5'' : (w3.alloc (.cells #[.int .i64 z, .slice (some ⟨g5, o5, none⟩) 0 0] 50)).cell? ⟨g5, o5, none⟩ = some (.int .i64 z) := hR4.head; clear hbX)
            (try dsimp only)
            refine hK.out _ _ ?_ (fun hHeld1 => ?_)
            · first | trivial | ((try dsimp only); first | assumption | trivial | go_keep)
            clear hK K hHeld0
            (try simp only [Act.put, List.setIfInBounds_toArray, List.set_cons_succ, List.set_cons_zero])
            refine wpAnyH_ready (rs := [1]) (by kernel_rfl) (by simp) ?_
            refine (AllReadyH.cons (o := ⟨some 76, .load 39 (.tmp 75), 39, "ref.go:270", #[⟨0, .data⟩], none⟩) rfl (fun K hK => ?_) AllReadyH.nil)
            go_simp
            skip
            (try dsimp only)
            refine hK.out _ _ ?_ (fun hHeld2 => ?_)
            · first | trivial | ((try dsimp only); first | assumption | trivial | go_keep)
            clear hK K hHeld1
            (try simp only [Act.put, List.setIfInBounds_toArray, List.set_cons_succ, List.set_cons_zero])
            refine wpAnyH_ready (rs := [9]) (by kernel_rfl) (by simp) ?_
            refine (AllReadyH.cons (o := ⟨some 84, .call { callee := .builtin .append, args := #[.tmp 76, .tmp 83], argTypes := #[39, 39] }, 39, "ref.go:270", #[⟨1, .data⟩, ⟨8, .data⟩], none⟩) rfl (fun K hK => ?_) AllReadyH.nil)
            (refine step_app Tryz.underlying39 hi0 hz0 hz1 hz2 rfl (by omega) encE_len encE_one _ rfl (.tmp 76) (.tmp 83) rfl (Kx + 1) (.slice B0 L0.length d0) L0.length L0 (by rfl) S4.own [((⟨z, ([] : List Int)⟩ : St.Edge), some ⟨g5, o5, none⟩, 0)] 1 1 _ rfl (by rfl) (one_edge w3 ((⟨z, ([] : List Int)⟩ : St.Edge), some ⟨g5, o5, none⟩, 0)) (by have := HLe.out; omega) (by omega) (by have := S4.cur.lt; omega) ?_; intro A' c' w5 own5 hg5'; have V5 := var_grown S4.cur S4.own (by decide) hg5'; have S5 := S4.app (p := ((⟨z, ([] : List Int)⟩ : St.Edge), some ⟨g5, o5, none⟩, 0)) hrow4 own5 hg5'; have HS5 := Lib.hid (S4.slApp (Nat.le_trans S4.l2 (Nat.le_of_lt S4.cur.lt)) hg5' HS4.out (.slice A' (L0.length + 1) c')); have e3 : w5.cell? ⟨Kx, 3, none⟩ = some (.slice B0 L0.length d0) := V5.cells 3; have z3 := V5.froz 3; have l3 := V5.lt; have hR5 := hR4.apart S4.own (by decide) hg5'; have f5' : w5.cell? ⟨g5, o5, none⟩ = some (.int .i64 z) := hR5.head; have f6 : (w5.setCell ⟨Kx, 3, none⟩ (.slice A' (L0.length + 1) c')).cell? ⟨g5, o5, none⟩ = some (.int .i64 z) := (hR5.stay (grown_set _ Kx 3 _) (Nat.le_refl _)).head)
            (try dsimp only)
            refine hK.out _ _ ?_ (fun hHeld3 => ?_)
            · first | trivial | ((try dsimp only); first | assumption | trivial | go_keep)
            clear hK K hHeld2
            (try simp only [Act.put, List.setIfInBounds_toArray, List.set_cons_succ, List.set_cons_zero])
            refine tk (i := 10) (oi := ⟨some 85, .fieldAddr 42 (.tmp 5) 3, 0, "ref.go:270", #[⟨0, .phase⟩, ⟨1, .phase⟩, ⟨2, .phase⟩, ⟨3, .phase⟩, ⟨4, .phase⟩, ⟨5, .phase⟩, ⟨6, .phase⟩, ⟨7, .phase⟩, ⟨8, .phase⟩, ⟨9, .phase⟩], none⟩) rfl ?_; (try simp only [Act.put, List.setIfInBounds_toArray, List.set_cons_succ, List.set_cons_zero])
            refine wpAnyH_ready (rs := [11]) (by kernel_rfl) (by simp) ?_
            refine (AllReadyH.cons (o := ⟨none, .store 39 (.tmp 85) (.tmp 84), 0, "ref.go:270", #[⟨10, .data⟩, ⟨9, .data⟩, ⟨9, .chain⟩, ⟨0, .phase⟩, ⟨1, .phase⟩, ⟨2, .phase⟩, ⟨3, .phase⟩, ⟨4, .phase⟩, ⟨5, .phase⟩, ⟨6, .phase⟩, ⟨7, .phase⟩, ⟨8, .phase⟩, ⟨9, .phase⟩], none⟩) rfl (fun K hK => ?_) AllReadyH.nil)
            go_simp
            skip
            (try dsimp only)
            refine hK.out _ _ ?_ (fun hHeld4 => ?_)
            · first | trivial | ((try dsimp only); first | assumption | trivial | go_keep)
            clear hK K hHeld3
            (try simp only [Act.put, List.setIfInBounds_toArray, List.set_cons_succ, List.set_cons_zero])
            refine wpAnyH_done (by kernel_rfl) ?_ _
            (try dsimp only)
            repeat (first | go_values | go_skip | go_guarded | go_step | go_upon)
            go_roundw
            case rel => exact ⟨es ++ [⟨z, ([] : List Int)⟩], m, f, Lib.hid S5.st, HS5, by omega, by simp; omega, HSub2, Lib.hid (by rw [HZ.out, Option.map_map]; congr 1; funext r; simp)⟩
            case measure => (obtain ⟨A9, c9, rfl, -, -⟩ := HS5.out; simp [lenOf]; omega)
          -- Q>

        · have hrt := hRD.tail (o' := o5 + 1) (.inr rfl)
          have x2 : (1 : Int) ≤ (zs.length : Int) + 1 := by omega
          -- Q<
          refine wp_region_held_drew (S := (fun W' => W'.cell? ⟨g5, o5, none⟩ = some (.int .i64 z))) (by kernel_rfl) ?_ (fun hHeld0 => ?_)
          · first | assumption | go_keep
          refine tk (i := 0) (oi := ⟨some 75, .fieldAddr 42 (.tmp 5) 3, 0, "ref.go:270", #[], none⟩) rfl ?_; (try simp only [Act.put, List.setIfInBounds_toArray, List.set_cons_succ, List.set_cons_zero])
          refine tk (i := 2) (oi := ⟨some 77, .move (.tmp 9), 37, "ref.go:270", #[], none⟩) rfl ?_; (try simp only [Act.put, List.setIfInBounds_toArray, List.set_cons_succ, List.set_cons_zero])
          refine tk (i := 3) (oi := ⟨some 78, .indexAddr 37 (.tmp 77) (.const (.int .i64 0)), 0, "ref.go:270", #[⟨2, .data⟩], none⟩) rfl ?_; (try simp only [Act.put, List.setIfInBounds_toArray, List.set_cons_succ, List.set_cons_zero])
          refine tk (i := 4) (oi := ⟨some 79, .load 3 (.tmp 78), 3, "ref.go:270", #[⟨3, .data⟩], none⟩) rfl ?_; (try simp only [Act.put, List.setIfInBounds_toArray, List.set_cons_succ, List.set_cons_zero])
          refine tk (i := 5) (oi := ⟨some 80, .move (.tmp 9), 37, "ref.go:270", #[], none⟩) rfl ?_; (try simp only [Act.put, List.setIfInBounds_toArray, List.set_cons_succ, List.set_cons_zero])
          refine tk (i := 6) (oi := ⟨some 81, .slice 37 (.tmp 80) (some (.const (.int .i64 1))) none none, 37, "ref.go:270", #[⟨5, .data⟩], none⟩) rfl ?_; (try simp only [Act.put, List.setIfInBounds_toArray, List.set_cons_succ, List.set_cons_zero])
          refine tk (i := 7) (oi := ⟨some 82, .build 50 #[(0, .tmp 79), (1, .tmp 81)], 50, "ref.go:270", #[⟨4, .data⟩, ⟨6, .data⟩], none⟩) rfl ?_; (try simp only [Act.put, List.setIfInBounds_toArray, List.set_cons_succ, List.set_cons_zero])
          refine wpAnyH_ready (rs := [1, 8]) (by kernel_rfl) (by simp) ?_
          refine (AllReadyH.cons (o := ⟨some 76, .load 39 (.tmp 75), 39, "ref.go:270", #[⟨0, .data⟩], none⟩) rfl (fun K hK => ?_) (AllReadyH.cons (o := ⟨some 83, .buildSlice 39 1 #[(0, .tmp 82)], 39, "ref.go:270", #[⟨7, .data⟩], none⟩) rfl (fun K hK => ?_) AllReadyH.nil))
          · skip
            go_simp
            skip
            (try dsimp only)
            refine hK.out _ _ ?_ (fun hHeld1 => ?_)
            · first | trivial | ((try dsimp only); first | assumption | trivial | go_keep)
            clear hK K hHeld0
            (try simp only [Act.put, List.setIfInBounds_toArray, List.set_cons_succ, List.set_cons_zero])
            refine wpAnyH_ready (rs := [8]) (by kernel_rfl) (by simp) ?_
            refine (AllReadyH.cons (o := ⟨some 83, .buildSlice 39 1 #[(0, .tmp 82)], 39, "ref.go:270", #[⟨7, .data⟩], none⟩) rfl (fun K hK => ?_) AllReadyH.nil)
            go_simp
            (have hbX : Below (World.drew w3).heap.size (World.drew w3) (World.drew (w3.alloc (.cells #[.int .i64 z, .slice (some ⟨g5, o5 + 1, none⟩) zs.length (c5 - 1)] 50))) := (Below.refl _ (World.drew w3)).alloc (Nat.le_refl _) (.cells #[.int .i64 z, .slice (some ⟨g5, o5 + 1, none⟩) zs.length (c5 - 1)] 50); have S4 := SD.below hbX; have hrow4 := hrt.below hbX; have hR4 := hRD.below hbX; have HS4 := Lib.hid (HSD.out.below (hbX.mono (Nat.le_trans SD.l2 (Nat.le_of_lt SD.cur.lt)))); have c3'' : (w3.alloc (.cells #[.int .i64 z, .slice (some ⟨g5, o5 + 1, none⟩) zs.length (c5 - 1)] 50)).cell? ⟨Kx, 3, none⟩ = some (.slice B0 L0.length d0) := S4.cur.cells 3; have f5'' : (w3.alloc (.cells #[.int .i64 z, .slice (some ⟨g5, o5 + 1, none⟩) zs.length (c5 - 1)] 50)).cell? ⟨g5, o5, none⟩ = some (.int .i64 z) := hR4.head; clear hbX)
            (try dsimp only)
            refine hK.out _ _ ?_ (fun hHeld2 => ?_)
            · first | trivial | ((try dsimp only); first | assumption | trivial | go_keep)
            clear hK K hHeld1
            (try simp only [Act.put, List.setIfInBounds_toArray, List.set_cons_succ, List.set_cons_zero])
            refine wpAnyH_ready (rs := [9]) (by kernel_rfl) (by simp) ?_
            refine (AllReadyH.cons (o := ⟨some 84, .call { callee := .builtin .append, args := #[.tmp 76, .tmp 83], argTypes := #[39, 39] }, 39, "ref.go:270", #[⟨1, .data⟩, ⟨8, .data⟩], none⟩) rfl (fun K hK => ?_) AllReadyH.nil)
            (refine step_app Tryz.underlying39 hi0 hz0 hz1 hz2 rfl (by omega) encE_len encE_one _ rfl (.tmp 76) (.tmp 83) rfl (Kx + 1) (.slice B0 L0.length d0) L0.length L0 (by rfl) S4.own [((⟨z, zs⟩ : St.Edge), some ⟨g5, o5 + 1, none⟩, (c5 - 1))] 1 1 _ rfl (by rfl) (one_edge w3 ((⟨z, zs⟩ : St.Edge), some ⟨g5, o5 + 1, none⟩, (c5 - 1))) (by have := HLe.out; omega) (by omega) (by have := S4.cur.lt; omega) ?_; intro A' c' w5 own5 hg5'; have V5 := var_grown S4.cur S4.own (by decide) hg5'; have S5 := S4.app (p := ((⟨z, zs⟩ : St.Edge), some ⟨g5, o5 + 1, none⟩, (c5 - 1))) hrow4 own5 hg5'; have HS5 := Lib.hid (S4.slApp (Nat.le_trans S4.l2 (Nat.le_of_lt S4.cur.lt)) hg5' HS4.out (.slice A' (L0.length + 1) c')); have e3 : w5.cell? ⟨Kx, 3, none⟩ = some (.slice B0 L0.length d0) := V5.cells 3; have z3 := V5.froz 3; have l3 := V5.lt; have hR5 := hR4.apart S4.own (by decide) hg5'; have f5' : w5.cell? ⟨g5, o5, none⟩ = some (.int .i64 z) := hR5.head; have f6 : (w5.setCell ⟨Kx, 3, none⟩ (.slice A' (L0.length + 1) c')).cell? ⟨g5, o5, none⟩ = some (.int .i64 z) := (hR5.stay (grown_set _ Kx 3 _) (Nat.le_refl _)).head)
            (try dsimp only)
            refine hK.out _ _ ?_ (fun hHeld3 => ?_)
            · first | trivial | ((try dsimp only); first | assumption | trivial | go_keep)
            clear hK K hHeld2
            (try simp only [Act.put, List.setIfInBounds_toArray, List.set_cons_succ, List.set_cons_zero])
            refine tk (i := 10) (oi := ⟨some 85, .fieldAddr 42 (.tmp 5) 3, 0, "ref.go:270", #[⟨0, .phase⟩, ⟨1, .phase⟩, ⟨2, .phase⟩, ⟨3, .phase⟩, ⟨4, .phase⟩, ⟨5, .phase⟩, ⟨6, .phase⟩, ⟨7, .phase⟩, ⟨8, .phase⟩, ⟨9, .phase⟩], none⟩) rfl ?_; (try simp only [Act.put, List.setIfInBounds_toArray, List.set_cons_succ, List.set_cons_zero])
            refine wpAnyH_ready (rs := [11]) (by kernel_rfl) (by simp) ?_
            refine (AllReadyH.cons (o := ⟨none, .store 39 (.tmp 85) (.tmp 84), 0, "ref.go:270", #[⟨10, .data⟩, ⟨9, .data⟩, ⟨9, .chain⟩, ⟨0, .phase⟩, ⟨1, .phase⟩, ⟨2, .phase⟩, ⟨3, .phase⟩, ⟨4, .phase⟩, ⟨5, .phase⟩, ⟨6, .phase⟩, ⟨7, .phase⟩, ⟨8, .phase⟩, ⟨9, .phase⟩], none⟩) rfl (fun K hK => ?_) AllReadyH.nil)
            go_simp
            skip
            (try dsimp only)
            refine hK.out _ _ ?_ (fun hHeld4 => ?_)
            · first | trivial | ((try dsimp only); first | assumption | trivial | go_keep)
            clear hK K hHeld3
            (try simp only [Act.put, List.setIfInBounds_toArray, List.set_cons_succ, List.set_cons_zero])
            refine wpAnyH_done (by kernel_rfl) ?_ _
            (try dsimp only)
            repeat (first | go_values | go_skip | go_guarded | go_step | go_upon)
            go_roundw
            case rel => exact ⟨es ++ [⟨z, zs⟩], m, f, Lib.hid S5.st, HS5, by omega, by simp; omega, HSub2, Lib.hid (by rw [HZ.out, Option.map_map]; congr 1; funext r; simp)⟩
            case measure => (obtain ⟨A9, c9, rfl, -, -⟩ := HS5.out; simp [lenOf]; omega)
          · skip
            go_simp
            (have hbX : Below (World.drew w3).heap.size (World.drew w3) (World.drew (w3.alloc (.cells #[.int .i64 z, .slice (some ⟨g5, o5 + 1, none⟩) zs.length (c5 - 1)] 50))) := (Below.refl _ (World.drew w3)).alloc (Nat.le_refl _) (.cells #[.int .i64 z, .slice (some ⟨g5, o5 + 1, none⟩) zs.length (c5 - 1)] 50); have S4 := SD.below hbX; have hrow4 := hrt.below hbX; have hR4 := hRD.below hbX; have HS4 := Lib.hid (HSD.out.below (hbX.mono (Nat.le_trans SD.l2 (Nat.le_of_lt SD.cur.lt)))); have c3'' : (w3.alloc (.cells #[.int .i64 z, .slice (some ⟨g5, o5 + 1, none⟩) zs.length (c5 - 1)] 50)).cell? ⟨Kx, 3, none⟩ = some (.slice B0 L0.length d0) := S4.cur.cells 3; have f5'' : (w3.alloc (.cells #[.int .i64 z, .slice (some ⟨g5, o5 + 1, none⟩) zs.length (c5 - 1)] 50)).cell? ⟨g5, o5, none⟩ = some (.int .i64 z) := hR4.head; clear hbX)
            (try dsimp only)
            refine hK.out _ _ ?_ (fun hHeld1 => ?_)
            · first | trivial | ((try dsimp only); first | assumption | trivial | go_keep)
            clear hK K hHeld0
            (try simp only [Act.put, List.setIfInBounds_toArray, List.set_cons_succ, List.set_cons_zero])
            refine wpAnyH_ready (rs := [1]) (by kernel_rfl) (by simp) ?_
            refine (AllReadyH.cons (o := ⟨some 76, .load 39 (.tmp 75), 39, "ref.go:270", #[⟨0, .data⟩], none⟩) rfl (fun K hK => ?_) AllReadyH.nil)
            go_simp
            skip
            (try dsimp only)
            refine hK.out _ _ ?_ (fun hHeld2 => ?_)
            · first | trivial | ((try dsimp only); first | assumption | trivial | go_keep)
            clear hK K hHeld1
            (try simp only [Act.put, List.setIfInBounds_toArray, List.set_cons_succ, List.set_cons_zero])
            refine wpAnyH_ready (rs := [9]) (by kernel_rfl) (by simp) ?_
            refine (AllReadyH.cons (o := ⟨some 84, .call { callee := .builtin .append, args := #[.tmp 76, .tmp 83], argTypes := #[39, 39] }, 39, "ref.go:270", #[⟨1, .data⟩, ⟨8, .data⟩], none⟩) rfl (fun K hK => ?_) AllReadyH.nil)
            (refine step_app Tryz.underlying39 hi0 hz0 hz1 hz2 rfl (by omega) encE_len encE_one _ rfl (.tmp 76) (.tmp 83) rfl (Kx + 1) (.slice B0 L0.length d0) L0.length L0 (by rfl) S4.own [((⟨z, zs⟩ : St.Edge), some ⟨g5, o5 + 1, none⟩, (c5 - 1))] 1 1 _ rfl (by rfl) (one_edge w3 ((⟨z, zs⟩ : St.Edge), some ⟨g5, o5 + 1, none⟩, (c5 - 1))) (by have := HLe.out; omega) (by omega) (by have := S4.cur.lt; omega) ?_; intro A' c' w5 own5 hg5'; have V5 := var_grown S4.cur S4.own (by decide) hg5'; have S5 := S4.app (p := ((⟨z, zs⟩ : St.Edge), some ⟨g5, o5 + 1, none⟩, (c5 - 1))) hrow4 own5 hg5'; have HS5 := Lib.hid (S4.slApp (Nat.le_trans S4.l2 (Nat.le_of_lt S4.cur.lt)) hg5' HS4.out (.slice A' (L0.length + 1) c')); have e3 : w5.cell? ⟨Kx, 3, none⟩ = some (.slice B0 L0.length d0) := V5.cells 3; have z3 := V5.froz 3; have l3 := V5.lt; have hR5 := hR4.apart S4.own (by decide) hg5'; have f5' : w5.cell? ⟨g5, o5, none⟩ = some (.int .i64 z) := hR5.head; have f6 : (w5.setCell ⟨Kx, 3, none⟩ (.slice A' (L0.length + 1) c')).cell? ⟨g5, o5, none⟩ = some (.int .i64 z) := (hR5.stay (grown_set _ Kx 3 _) (Nat.le_refl _)).head)
            (try dsimp only)
            refine hK.out _ _ ?_ (fun hHeld3 => ?_)
            · first | trivial | ((try dsimp only); first | assumption | trivial | go_keep)
            clear hK K hHeld2
            (try simp only [Act.put, List.setIfInBounds_toArray, List.set_cons_succ, List.set_cons_zero])
            refine tk (i := 10) (oi := ⟨some 85, .fieldAddr 42 (.tmp 5) 3, 0, "ref.go:270", #[⟨0, .phase⟩, ⟨1, .phase⟩, ⟨2, .phase⟩, ⟨3, .phase⟩, ⟨4, .phase⟩, ⟨5, .phase⟩, ⟨6, .phase⟩, ⟨7, .phase⟩, ⟨8, .phase⟩, ⟨9, .phase⟩], none⟩) rfl ?_; (try simp only [Act.put, List.setIfInBounds_toArray, List.set_cons_succ, List.set_cons_zero])
            refine wpAnyH_ready (rs := [11]) (by kernel_rfl) (by simp) ?_
            refine (AllReadyH.cons (o := ⟨none, .store 39 (.tmp 85) (.tmp 84), 0, "ref.go:270", #[⟨10, .data⟩, ⟨9, .data⟩, ⟨9, .chain⟩, ⟨0, .phase⟩, ⟨1, .phase⟩, ⟨2, .phase⟩, ⟨3, .phase⟩, ⟨4, .phase⟩, ⟨5, .phase⟩, ⟨6, .phase⟩, ⟨7, .phase⟩, ⟨8, .phase⟩, ⟨9, .phase⟩], none⟩) rfl (fun K hK => ?_) AllReadyH.nil)
            go_simp
            skip
            (try dsimp only)
            refine hK.out _ _ ?_ (fun hHeld4 => ?_)
            · first | trivial | ((try dsimp only); first | assumption | trivial | go_keep)
            clear hK K hHeld3
            (try simp only [Act.put, List.setIfInBounds_toArray, List.set_cons_succ, List.set_cons_zero])
            refine wpAnyH_done (by kernel_rfl) ?_ _
            (try dsimp only)
            repeat (first | go_values | go_skip | go_guarded | go_step | go_upon)
            go_roundw
            case rel => exact ⟨es ++ [⟨z, zs⟩], m, f, Lib.hid S5.st, HS5, by omega, by simp; omega, HSub2, Lib.hid (by rw [HZ.out, Option.map_map]; congr 1; funext r; simp)⟩
            case measure => (obtain ⟨A9, c9, rfl, -, -⟩ := HS5.out; simp [lenOf]; omega)
          -- Q>
  case rest =>
  obtain ⟨es, l3, HZ, S, hsl⟩ := hcut
  have hin := HIN.out
  have hxok := HOK.out
  have hZ0 := HZ0.out
  rw [HZ.out] at hin hxok hZ0
  clear HIN HOK HZ0 HZ S3 HSB3
  dsimp only at hin hxok
  obtain ⟨-, -, hsub⟩ := St.redges_ok _ _ _ _ hZ0
  have hw3 : ∀ u ∈ l3, u.length ≤ 1000000 := fun u hu => HW2.out u (hsub.1 u hu)
  have HO3 := Lib.hid (rone_any _ l3 hw3 St.lTrap _ hsl)
  obtain ⟨⟨l4, v4⟩, h4⟩ : ∃ x, St.oneR l3 St.lTrap = x := ⟨_, rfl⟩
  rw [h4] at hin hxok HO3
  dsimp only at hin hxok HO3
  unfold St.lTrap at HO3
  have HIN := Lib.hid hin
  clear hin h4 hw3 hsub hZ0 HW2
  obtain ⟨A0, c0, B0, d0, L0, S0⟩ := S
  go_upto_region 17 with (go_at_call 105; with_reducible refine HO3.out.mono ?_; rintro e w2 ⟨⟨va, rfl, hsa⟩, rfl⟩; have HSA := Lib.hid hsa; clear hsa HO3 hsl)
  have q1 := (S0.cells 4 (by omega)).1
  obtain ⟨q0, q2⟩ := (S0.cells 4 (by omega)).2
  have q3 := S0.cur.lt
  have S2 := Lib.hid (S0.setTrap v4).st
  have hs2 := Lib.hid (S0.sl HSA.out 4 (.int .i64 v4))
  clear S0 HSA
  go_upto_region 18 with fail
  refine at_code (F := fun W => REnd w W N Kx ⟨k, v1, v2, es, v4⟩ ∧ SlB W N va l4) ⟨S2.out, hs2.out⟩ ?_
  clear q1 q0 q2 q3 S2 hs2
  rintro W ⟨S, hsl⟩
  obtain ⟨A4, c4, rfl, -, -⟩ := hsl
  have HR := Lib.hid HIN.out
  clear HIN
  obtain ⟨A, c, B, d, L0, SX'⟩ := S
  have hv' : Var W Kx #[.int .i64 k, .int .i64 v1, .slice A v2.length c, .slice B L0.length d, .int .i64 v4] 42 := SX'.cur
  obtain ⟨c0_, c1_, c2_, c3_, c4_⟩ := cells5 hv'
  have VR := SX'.res
  have hKx := SX'.cur.lt
  have hKz := VR.lt
  have hne := SX'.l1
  have HLe : Hid (L0.length = es.length) := Lib.hid (by have := congrArg List.length SX'.ed; simpa using this)
  have SX := Lib.hid SX'
  have HX := Lib.hid hxok
  clear hv' SX' hxok
  rcases l4 with _ | ⟨u, l4⟩
  · rcases hk0 : decide (0 ≤ k) with _ | _
    · have k0 : ¬ (0 : Int) ≤ k := by simpa using hk0
      have k1 : decide ((0 : Int) ≤ k) = false := hk0
      have HR : Hid (R = ((⟨k, v1, v2, es, v4⟩ : St.Fin), false)) := Lib.hid (by rw [HR.out, hk0]; rfl)
      clear hk0
      have SS : (fun W' => W'.cell? ⟨Kx, 0, none⟩ = some (.int .i64 k) ∧ W'.cell? ⟨Kx, 1, none⟩ = some (.int .i64 v1) ∧ W'.cell? ⟨Kx, 2, none⟩ = some (.slice A v2.length c) ∧ W'.cell? ⟨Kx, 3, none⟩ = some (.slice B L0.length d) ∧ W'.cell? ⟨Kx, 4, none⟩ = some (.int .i64 v4)) (World.drew W) := ⟨c0_, c1_, c2_, c3_, c4_⟩
      dsimp only at SS
      have SSc := SS
      obtain ⟨t0, t1, t2, t3, t4⟩ := SSc
      have VD : (World.drew W).heap[w.heap.size]? = some (.cells #[.int .i64 0, .int .i64 0, .slice none 0 0, .slice none 0 0, .int .i64 0] 42 (0, 0)) := VR
      refine wp_region_held_drew (S := (fun W' => W'.cell? ⟨Kx, 0, none⟩ = some (.int .i64 k) ∧ W'.cell? ⟨Kx, 1, none⟩ = some (.int .i64 v1) ∧ W'.cell? ⟨Kx, 2, none⟩ = some (.slice A v2.length c) ∧ W'.cell? ⟨Kx, 3, none⟩ = some (.slice B L0.length d) ∧ W'.cell? ⟨Kx, 4, none⟩ = some (.int .i64 v4))) (by kernel_rfl) ?_ (fun hHeld0 => ?_)
      · first | assumption | go_keep
      refine tk (i := 0) (oi := ⟨some 94, .load 42 (.tmp 5), 42, "ref.go:275", #[], none⟩) rfl ?_; (try simp only [Act.put, List.setIfInBounds_toArray, List.set_cons_succ, List.set_cons_zero])
      refine tk (i := 1) (oi := ⟨some 95, .move (.tmp 4), 54, "ref.go:275", #[], none⟩) rfl ?_; (try simp only [Act.put, List.setIfInBounds_toArray, List.set_cons_succ, List.set_cons_zero])
      refine tk (i := 2) (oi := ⟨some 96, .call { callee := .builtin .len, args := #[.tmp 95], argTypes := #[54] }, 3, "ref.go:275", #[⟨1, .data⟩], none⟩) rfl ?_; (try simp only [Act.put, List.setIfInBounds_toArray, List.set_cons_succ, List.set_cons_zero])
      refine tk (i := 3) (oi := ⟨some 97, .binOp .eql 3 (.tmp 96) (.const (.int .i64 0)) 3, 4, "ref.go:275", #[⟨2, .data⟩], none⟩) rfl ?_; (try simp only [Act.put, List.setIfInBounds_toArray, List.set_cons_succ, List.set_cons_zero])
      refine tk (i := 4) (oi := ⟨some 98, .move (.tmp 97), 4, "ref.go:275", #[⟨3, .data⟩], none⟩) rfl ?_; (try simp only [Act.put, List.setIfInBounds_toArray, List.set_cons_succ, List.set_cons_zero])
      refine tk (i := 5) (oi := ⟨some 99, .fieldAddr 42 (.tmp 5) 0, 0, "ref.go:275", #[⟨4, .guard⟩], some (4, true)⟩) rfl ?_; (try simp only [Act.put, List.setIfInBounds_toArray, List.set_cons_succ, List.set_cons_zero])
      refine tk (i := 6) (oi := ⟨some 100, .load 3 (.tmp 99), 3, "ref.go:275", #[⟨5, .data⟩, ⟨4, .guard⟩], some (4, true)⟩) rfl ?_; (try simp only [Act.put, List.setIfInBounds_toArray, List.set_cons_succ, List.set_cons_zero])
      refine tk (i := 7) (oi := ⟨some 101, .binOp .geq 3 (.tmp 100) (.const (.int .i64 0)) 3, 4, "ref.go:275", #[⟨6, .data⟩, ⟨4, .guard⟩], some (4, true)⟩) rfl ?_; (try simp only [Act.put, List.setIfInBounds_toArray, List.set_cons_succ, List.set_cons_zero])
      refine tk (i := 8) (oi := ⟨some 102, .pick (.tmp 98) (.tmp 101) (.const (.bool false)), 4, "ref.go:275", #[⟨4, .data⟩, ⟨7, .data⟩], none⟩) rfl ?_; (try simp only [Act.put, List.setIfInBounds_toArray, List.set_cons_succ, List.set_cons_zero])
      refine tk (i := 9) (oi := ⟨some 103, .move (.tmp 102), 4, "ref.go:275", #[⟨8, .data⟩, ⟨4, .chain⟩], none⟩) rfl ?_; (try simp only [Act.put, List.setIfInBounds_toArray, List.set_cons_succ, List.set_cons_zero])
      refine tkN (i := 10) (oi := ⟨some 104, .load 42 (.tmp 5), 42, "ref.go:275", #[⟨9, .guard⟩], some (9, true)⟩) rfl ?_; (try simp only [Act.put, List.setIfInBounds_toArray, List.set_cons_succ, List.set_cons_zero])
      refine tkN (i := 11) (oi := ⟨some 105, .call { callee := .value (.func 27), args := #[.tmp 104], argTypes := #[42] }, 9, "ref.go:275", #[⟨10, .data⟩, ⟨9, .chain⟩, ⟨9, .guard⟩], some (9, true)⟩) rfl ?_; (try simp only [Act.put, List.setIfInBounds_toArray, List.set_cons_succ, List.set_cons_zero])
      refine tkN (i := 12) (oi := ⟨some 106, .move (.tmp 0), 9, "ref.go:275", #[⟨9, .guard⟩, { on := 16, ground := .gcOnly Go.Departure.lateStores }], some (9, true)⟩) rfl ?_; (try simp only [Act.put, List.setIfInBounds_toArray, List.set_cons_succ, List.set_cons_zero])
      refine tkN (i := 13) (oi := ⟨some 107, .binOp .add 9 (.tmp 106) (.const (.string { data := #[10] })) 9, 9, "ref.go:275", #[⟨12, .data⟩, ⟨9, .guard⟩, { on := 16, ground := .gcOnly Go.Departure.lateStores }], some (9, true)⟩) rfl ?_; (try simp only [Act.put, List.setIfInBounds_toArray, List.set_cons_succ, List.set_cons_zero])
      refine tkN (i := 14) (oi := ⟨some 108, .binOp .eql 9 (.tmp 105) (.tmp 107) 9, 4, "ref.go:275", #[⟨11, .data⟩, ⟨13, .data⟩, ⟨9, .guard⟩, { on := 16, ground := .gcOnly Go.Departure.lateStores }], some (9, true)⟩) rfl ?_; (try simp only [Act.put, List.setIfInBounds_toArray, List.set_cons_succ, List.set_cons_zero])
      refine tk (i := 15) (oi := ⟨some 109, .pick (.tmp 103) (.tmp 108) (.const (.bool false)), 4, "ref.go:275", #[⟨9, .data⟩, ⟨14, .data⟩, { on := 16, ground := .gcOnly Go.Departure.lateStores }], none⟩) rfl ?_; (try simp only [Act.put, List.setIfInBounds_toArray, List.set_cons_succ, List.set_cons_zero])
      refine wpAnyH_ready (rs := [16]) (by kernel_rfl) (by simp) ?_
      refine AllReadyH.cons (o := ⟨none, .store 42 (.tmp 2) (.tmp 94), 0, "ref.go:275", #[⟨0, .data⟩, ⟨11, .chain⟩, ⟨0, .phase⟩, { on := 1, ground := .textOnly Go.Departure.lateStores }, { on := 2, ground := .textOnly Go.Departure.lateStoresUnsure }, { on := 3, ground := .textOnly Go.Departure.lateStores }, { on := 4, ground := .textOnly Go.Departure.lateStores }, { on := 5, ground := .textOnly Go.Departure.lateStores }, { on := 6, ground := .textOnly Go.Departure.lateStores }, { on := 7, ground := .textOnly Go.Departure.lateStores }, { on := 8, ground := .textOnly Go.Departure.lateStores }, { on := 9, ground := .textOnly Go.Departure.lateStores }, { on := 10, ground := .textOnly Go.Departure.lateStores }, { on := 11, ground := .textOnly Go.Departure.lateStoresUnsure }, { on := 12, ground := .textOnly Go.Departure.lateStores }, { on := 13, ground := .textOnly Go.Departure.lateStores }, { on := 14, ground := .textOnly Go.Departure.lateStores }, { on := 15, ground := .textOnly Go.Departure.lateStores }], none⟩) rfl (fun K hK => ?_) AllReadyH.nil
      (rw [if_pos (by rfl)]; refine wp_store_row 42 (.tmp 2) (.tmp 94) rfl w.heap.size #[.int .i64 k, .int .i64 v1, .slice A v2.length c, .slice B L0.length d, .int .i64 v4] rfl rfl 42 #[.int .i64 0, .int .i64 0, .slice none 0 0, .slice none 0 0, .int .i64 0] VD info_send rfl (by simp [Value.oneCell']) ?_; have gS := setRow_grown (World.drew W) w.heap.size #[.int .i64 k, .int .i64 v1, .slice A v2.length c, .slice B L0.length d, .int .i64 v4]; have SS2 : (fun W' => W'.cell? ⟨Kx, 0, none⟩ = some (.int .i64 k) ∧ W'.cell? ⟨Kx, 1, none⟩ = some (.int .i64 v1) ∧ W'.cell? ⟨Kx, 2, none⟩ = some (.slice A v2.length c) ∧ W'.cell? ⟨Kx, 3, none⟩ = some (.slice B L0.length d) ∧ W'.cell? ⟨Kx, 4, none⟩ = some (.int .i64 v4)) ((World.drew W).setRow w.heap.size #[.int .i64 k, .int .i64 v1, .slice A v2.length c, .slice B L0.length d, .int .i64 v4]) := ⟨gS.cell t0 (by simp; omega), gS.cell t1 (by simp; omega), gS.cell t2 (by simp; omega), gS.cell t3 (by simp; omega), gS.cell t4 (by simp; omega)⟩; dsimp only at SS2)
      (try dsimp only)
      refine hK.out _ _ ?_ (fun hHeld1 => ?_)
      · first | trivial | ((try dsimp only); first | assumption | trivial | go_keep)
      clear hK K hHeld0
      (try simp only [Act.put, List.setIfInBounds_toArray, List.set_cons_succ, List.set_cons_zero])
      refine tk (i := 17) (oi := ⟨some 3, .assign (.tmp 109), 4, "ref.go:275", #[⟨15, .data⟩, ⟨16, .chain⟩, ⟨0, .phase⟩, ⟨1, .phase⟩, ⟨2, .phase⟩, ⟨3, .phase⟩, ⟨4, .phase⟩, ⟨5, .phase⟩, ⟨6, .phase⟩, ⟨7, .phase⟩, ⟨8, .phase⟩, ⟨9, .phase⟩, ⟨10, .phase⟩, ⟨11, .phase⟩, ⟨12, .phase⟩, ⟨13, .phase⟩, ⟨14, .phase⟩, ⟨15, .phase⟩, ⟨16, .phase⟩], none⟩) rfl ?_; (try simp only [Act.put, List.setIfInBounds_toArray, List.set_cons_succ, List.set_cons_zero])
      refine wpAnyH_done (by kernel_rfl) ?_ _
      (try dsimp only)
      repeat (first | go_values | go_skip | go_guarded | go_step | go_upon)
      have fin := rendFin SX.out (below_drewN W 1) #[.int .i64 k, .int .i64 v1, .slice A v2.length c, .slice B L0.length d, .int .i64 v4]
      refine bodyPost_ret (results_cell_row_tmp rfl _ _ w.heap.size _ #[.int .i64 k, .int .i64 v1, .slice A v2.length c, .slice B L0.length d, .int .i64 v4] (0, 0) _ rfl (setRow_heap (World.drew W) w.heap.size #[.int .i64 0, .int .i64 0, .slice none 0 0, .slice none 0 0, .int .i64 0] _ _ (0, 0) VR) Tryz.underlying42 rfl (by kernel_rfl)) rfl ?_
      rw [HLe.out] at fin ⊢
      obtain rfl := HR.out
      exact ⟨⟨A, c, B, d, rfl, fin.2.1, fin.2.2⟩, fin.1⟩
    · have k0 : (0 : Int) ≤ k := by simpa using hk0
      have k1 : decide ((0 : Int) ≤ k) = true := hk0
      have SXD := SX.out.below (below_drewN W 1)
      have HFin := Lib.hid (rfin40_any ⟨k, v1, v2, es, v4⟩ HX.out ⟨k0, HKR.out k0⟩ (fun _ => True) A c B d (World.drew W) SXD.ar.1 SXD.edges)
      clear SXD
      unfold finV at HFin
      dsimp only at HFin
      rw [← HLe.out] at HFin
      have hcat : (ByteArray.mk s.toArray ++ ByteArray.mk #[10]) = ByteArray.mk (s ++ [10]).toArray := cat_mk s [10]
      have hlen : ¬ (9223372036854775807 < s.length + 1) := by omega
      by_cases he : St.finR ⟨k, v1, v2, es, v4⟩ = s ++ [10]
      · have HR : Hid (R = ((⟨k, v1, v2, es, v4⟩ : St.Fin), true)) := Lib.hid (by rw [HR.out, hk0, he]; simp)
        rw [he] at HFin
        clear hk0 he
        have SS : (fun W' => W'.cell? ⟨Kx, 0, none⟩ = some (.int .i64 k) ∧ W'.cell? ⟨Kx, 1, none⟩ = some (.int .i64 v1) ∧ W'.cell? ⟨Kx, 2, none⟩ = some (.slice A v2.length c) ∧ W'.cell? ⟨Kx, 3, none⟩ = some (.slice B L0.length d) ∧ W'.cell? ⟨Kx, 4, none⟩ = some (.int .i64 v4)) (World.drew W) := ⟨c0_, c1_, c2_, c3_, c4_⟩
        dsimp only at SS
        have SSc := SS
        obtain ⟨t0, t1, t2, t3, t4⟩ := SSc
        have VD : (World.drew W).heap[w.heap.size]? = some (.cells #[.int .i64 0, .int .i64 0, .slice none 0 0, .slice none 0 0, .int .i64 0] 42 (0, 0)) := VR
        refine wp_region_held_drew (S := (fun W' => W'.cell? ⟨Kx, 0, none⟩ = some (.int .i64 k) ∧ W'.cell? ⟨Kx, 1, none⟩ = some (.int .i64 v1) ∧ W'.cell? ⟨Kx, 2, none⟩ = some (.slice A v2.length c) ∧ W'.cell? ⟨Kx, 3, none⟩ = some (.slice B L0.length d) ∧ W'.cell? ⟨Kx, 4, none⟩ = some (.int .i64 v4))) (by kernel_rfl) ?_ (fun hHeld0 => ?_)
        · first | assumption | go_keep
        refine tk (i := 0) (oi := ⟨some 94, .load 42 (.tmp 5), 42, "ref.go:275", #[], none⟩) rfl ?_; (try simp only [Act.put, List.setIfInBounds_toArray, List.set_cons_succ, List.set_cons_zero])
        refine tk (i := 1) (oi := ⟨some 95, .move (.tmp 4), 54, "ref.go:275", #[], none⟩) rfl ?_; (try simp only [Act.put, List.setIfInBounds_toArray, List.set_cons_succ, List.set_cons_zero])
        refine tk (i := 2) (oi := ⟨some 96, .call { callee := .builtin .len, args := #[.tmp 95], argTypes := #[54] }, 3, "ref.go:275", #[⟨1, .data⟩], none⟩) rfl ?_; (try simp only [Act.put, List.setIfInBounds_toArray, List.set_cons_succ, List.set_cons_zero])
        refine tk (i := 3) (oi := ⟨some 97, .binOp .eql 3 (.tmp 96) (.const (.int .i64 0)) 3, 4, "ref.go:275", #[⟨2, .data⟩], none⟩) rfl ?_; (try simp only [Act.put, List.setIfInBounds_toArray, List.set_cons_succ, List.set_cons_zero])
        refine tk (i := 4) (oi := ⟨some 98, .move (.tmp 97), 4, "ref.go:275", #[⟨3, .data⟩], none⟩) rfl ?_; (try simp only [Act.put, List.setIfInBounds_toArray, List.set_cons_succ, List.set_cons_zero])
        refine tk (i := 5) (oi := ⟨some 99, .fieldAddr 42 (.tmp 5) 0, 0, "ref.go:275", #[⟨4, .guard⟩], some (4, true)⟩) rfl ?_; (try simp only [Act.put, List.setIfInBounds_toArray, List.set_cons_succ, List.set_cons_zero])
        refine tk (i := 6) (oi := ⟨some 100, .load 3 (.tmp 99), 3, "ref.go:275", #[⟨5, .data⟩, ⟨4, .guard⟩], some (4, true)⟩) rfl ?_; (try simp only [Act.put, List.setIfInBounds_toArray, List.set_cons_succ, List.set_cons_zero])
        refine tk (i := 7) (oi := ⟨some 101, .binOp .geq 3 (.tmp 100) (.const (.int .i64 0)) 3, 4, "ref.go:275", #[⟨6, .data⟩, ⟨4, .guard⟩], some (4, true)⟩) rfl ?_; (try simp only [Act.put, List.setIfInBounds_toArray, List.set_cons_succ, List.set_cons_zero])
        refine tk (i := 8) (oi := ⟨some 102, .pick (.tmp 98) (.tmp 101) (.const (.bool false)), 4, "ref.go:275", #[⟨4, .data⟩, ⟨7, .data⟩], none⟩) rfl ?_; (try simp only [Act.put, List.setIfInBounds_toArray, List.set_cons_succ, List.set_cons_zero])
        refine tk (i := 9) (oi := ⟨some 103, .move (.tmp 102), 4, "ref.go:275", #[⟨8, .data⟩, ⟨4, .chain⟩], none⟩) rfl ?_; (try simp only [Act.put, List.setIfInBounds_toArray, List.set_cons_succ, List.set_cons_zero])
        refine tk (i := 10) (oi := ⟨some 104, .load 42 (.tmp 5), 42, "ref.go:275", #[⟨9, .guard⟩], some (9, true)⟩) rfl ?_; (try simp only [Act.put, List.setIfInBounds_toArray, List.set_cons_succ, List.set_cons_zero])
        refine tk (i := 12) (oi := ⟨some 106, .move (.tmp 0), 9, "ref.go:275", #[⟨9, .guard⟩, { on := 16, ground := .gcOnly Go.Departure.lateStores }], some (9, true)⟩) rfl ?_; (try simp only [Act.put, List.setIfInBounds_toArray, List.set_cons_succ, List.set_cons_zero])
        refine tk (i := 13) (oi := ⟨some 107, .binOp .add 9 (.tmp 106) (.const (.string { data := #[10] })) 9, 9, "ref.go:275", #[⟨12, .data⟩, ⟨9, .guard⟩, { on := 16, ground := .gcOnly Go.Departure.lateStores }], some (9, true)⟩) rfl ?_; (try simp only [Act.put, List.setIfInBounds_toArray, List.set_cons_succ, List.set_cons_zero])
        refine wpAnyH_ready (rs := [11]) (by kernel_rfl) (by simp) ?_
        refine AllReadyH.cons (o := ⟨some 105, .call { callee := .value (.func 27), args := #[.tmp 104], argTypes := #[42] }, 9, "ref.go:275", #[⟨10, .data⟩, ⟨9, .chain⟩, ⟨9, .guard⟩], some (9, true)⟩) rfl (fun K hK => ?_) AllReadyH.nil
        go_simp
        (refine HFin.out.mono ?_; rintro e w5 ⟨rfl, hb5⟩; have U5 := Lib.hid ((below_drewN W 1).trans (hb5.mono (Nat.le_refl _))); have V5 := var_keep VR U5.out; have kp := Below.keep U5.out (fun _ => True); have d0 := kp _ _ trivial c0_; have d1 := kp _ _ trivial c1_; have d2 := kp _ _ trivial c2_; have d3 := kp _ _ trivial c3_; have d4 := kp _ _ trivial c4_; clear kp hb5; have SS5 : (fun W' => W'.cell? ⟨Kx, 0, none⟩ = some (.int .i64 k) ∧ W'.cell? ⟨Kx, 1, none⟩ = some (.int .i64 v1) ∧ W'.cell? ⟨Kx, 2, none⟩ = some (.slice A v2.length c) ∧ W'.cell? ⟨Kx, 3, none⟩ = some (.slice B L0.length d) ∧ W'.cell? ⟨Kx, 4, none⟩ = some (.int .i64 v4)) w5 := ⟨d0, d1, d2, d3, d4⟩; dsimp only at SS5)
        (try dsimp only)
        refine hK.out _ _ ?_ (fun hHeld1 => ?_)
        · first | trivial | ((try dsimp only); first | assumption | trivial | go_keep)
        clear hK K hHeld0
        (try simp only [Act.put, List.setIfInBounds_toArray, List.set_cons_succ, List.set_cons_zero])
        refine tk (i := 14) (oi := ⟨some 108, .binOp .eql 9 (.tmp 105) (.tmp 107) 9, 4, "ref.go:275", #[⟨11, .data⟩, ⟨13, .data⟩, ⟨9, .guard⟩, { on := 16, ground := .gcOnly Go.Departure.lateStores }], some (9, true)⟩) rfl ?_; (try simp only [Act.put, List.setIfInBounds_toArray, List.set_cons_succ, List.set_cons_zero])
        refine tk (i := 15) (oi := ⟨some 109, .pick (.tmp 103) (.tmp 108) (.const (.bool false)), 4, "ref.go:275", #[⟨9, .data⟩, ⟨14, .data⟩, { on := 16, ground := .gcOnly Go.Departure.lateStores }], none⟩) rfl ?_; (try simp only [Act.put, List.setIfInBounds_toArray, List.set_cons_succ, List.set_cons_zero])
        refine wpAnyH_ready (rs := [16]) (by kernel_rfl) (by simp) ?_
        refine AllReadyH.cons (o := ⟨none, .store 42 (.tmp 2) (.tmp 94), 0, "ref.go:275", #[⟨0, .data⟩, ⟨11, .chain⟩, ⟨0, .phase⟩, { on := 1, ground := .textOnly Go.Departure.lateStores }, { on := 2, ground := .textOnly Go.Departure.lateStoresUnsure }, { on := 3, ground := .textOnly Go.Departure.lateStores }, { on := 4, ground := .textOnly Go.Departure.lateStores }, { on := 5, ground := .textOnly Go.Departure.lateStores }, { on := 6, ground := .textOnly Go.Departure.lateStores }, { on := 7, ground := .textOnly Go.Departure.lateStores }, { on := 8, ground := .textOnly Go.Departure.lateStores }, { on := 9, ground := .textOnly Go.Departure.lateStores }, { on := 10, ground := .textOnly Go.Departure.lateStores }, { on := 11, ground := .textOnly Go.Departure.lateStoresUnsure }, { on := 12, ground := .textOnly Go.Departure.lateStores }, { on := 13, ground := .textOnly Go.Departure.lateStores }, { on := 14, ground := .textOnly Go.Departure.lateStores }, { on := 15, ground := .textOnly Go.Departure.lateStores }], none⟩) rfl (fun K hK => ?_) AllReadyH.nil
        (rw [if_pos (by rfl)]; refine wp_store_row 42 (.tmp 2) (.tmp 94) rfl w.heap.size #[.int .i64 k, .int .i64 v1, .slice A v2.length c, .slice B L0.length d, .int .i64 v4] rfl rfl 42 #[.int .i64 0, .int .i64 0, .slice none 0 0, .slice none 0 0, .int .i64 0] V5 info_send rfl (by simp [Value.oneCell']) ?_; have gS := setRow_grown w5 w.heap.size #[.int .i64 k, .int .i64 v1, .slice A v2.length c, .slice B L0.length d, .int .i64 v4]; have SS2 : (fun W' => W'.cell? ⟨Kx, 0, none⟩ = some (.int .i64 k) ∧ W'.cell? ⟨Kx, 1, none⟩ = some (.int .i64 v1) ∧ W'.cell? ⟨Kx, 2, none⟩ = some (.slice A v2.length c) ∧ W'.cell? ⟨Kx, 3, none⟩ = some (.slice B L0.length d) ∧ W'.cell? ⟨Kx, 4, none⟩ = some (.int .i64 v4)) (w5.setRow w.heap.size #[.int .i64 k, .int .i64 v1, .slice A v2.length c, .slice B L0.length d, .int .i64 v4]) := ⟨gS.cell d0 (by simp; omega), gS.cell d1 (by simp; omega), gS.cell d2 (by simp; omega), gS.cell d3 (by simp; omega), gS.cell d4 (by simp; omega)⟩; dsimp only at SS2)
        (try dsimp only)
        refine hK.out _ _ ?_ (fun hHeld2 => ?_)
        · first | trivial | ((try dsimp only); first | assumption | trivial | go_keep)
        clear hK K hHeld1
        (try simp only [Act.put, List.setIfInBounds_toArray, List.set_cons_succ, List.set_cons_zero])
        refine tk (i := 17) (oi := ⟨some 3, .assign (.tmp 109), 4, "ref.go:275", #[⟨15, .data⟩, ⟨16, .chain⟩, ⟨0, .phase⟩, ⟨1, .phase⟩, ⟨2, .phase⟩, ⟨3, .phase⟩, ⟨4, .phase⟩, ⟨5, .phase⟩, ⟨6, .phase⟩, ⟨7, .phase⟩, ⟨8, .phase⟩, ⟨9, .phase⟩, ⟨10, .phase⟩, ⟨11, .phase⟩, ⟨12, .phase⟩, ⟨13, .phase⟩, ⟨14, .phase⟩, ⟨15, .phase⟩, ⟨16, .phase⟩], none⟩) rfl ?_; (try simp only [Act.put, List.setIfInBounds_toArray, List.set_cons_succ, List.set_cons_zero])
        refine wpAnyH_done (by kernel_rfl) ?_ _
        (try dsimp only)
        repeat (first | go_values | go_skip | go_guarded | go_step | go_upon)
        have fin := rendFin SX.out U5.out #[.int .i64 k, .int .i64 v1, .slice A v2.length c, .slice B L0.length d, .int .i64 v4]
        refine bodyPost_ret (results_cell_row_tmp rfl _ _ w.heap.size _ #[.int .i64 k, .int .i64 v1, .slice A v2.length c, .slice B L0.length d, .int .i64 v4] (0, 0) _ rfl (setRow_heap w5 w.heap.size #[.int .i64 0, .int .i64 0, .slice none 0 0, .slice none 0 0, .int .i64 0] _ _ (0, 0) V5) Tryz.underlying42 rfl (by kernel_rfl)) rfl ?_
        rw [HLe.out] at fin ⊢
        obtain rfl := HR.out
        exact ⟨⟨A, c, B, d, rfl, fin.2.1, fin.2.2⟩, fin.1⟩
      · have hq2 : (St.finR ⟨k, v1, v2, es, v4⟩ == s ++ [10]) = false := by simpa using he
        have HR : Hid (R = ((⟨k, v1, v2, es, v4⟩ : St.Fin), false)) := Lib.hid (by rw [HR.out, hk0, hq2]; rfl)
        obtain ⟨J, hJ⟩ : ∃ x, St.finR ⟨k, v1, v2, es, v4⟩ = x := ⟨_, rfl⟩
        rw [hJ] at HFin he hq2
        have hq := beq_no he
        clear hk0 he hJ
        have SS : (fun W' => W'.cell? ⟨Kx, 0, none⟩ = some (.int .i64 k) ∧ W'.cell? ⟨Kx, 1, none⟩ = some (.int .i64 v1) ∧ W'.cell? ⟨Kx, 2, none⟩ = some (.slice A v2.length c) ∧ W'.cell? ⟨Kx, 3, none⟩ = some (.slice B L0.length d) ∧ W'.cell? ⟨Kx, 4, none⟩ = some (.int .i64 v4)) (World.drew W) := ⟨c0_, c1_, c2_, c3_, c4_⟩
        dsimp only at SS
        have SSc := SS
        obtain ⟨t0, t1, t2, t3, t4⟩ := SSc
        have VD : (World.drew W).heap[w.heap.size]? = some (.cells #[.int .i64 0, .int .i64 0, .slice none 0 0, .slice none 0 0, .int .i64 0] 42 (0, 0)) := VR
        refine wp_region_held_drew (S := (fun W' => W'.cell? ⟨Kx, 0, none⟩ = some (.int .i64 k) ∧ W'.cell? ⟨Kx, 1, none⟩ = some (.int .i64 v1) ∧ W'.cell? ⟨Kx, 2, none⟩ = some (.slice A v2.length c) ∧ W'.cell? ⟨Kx, 3, none⟩ = some (.slice B L0.length d) ∧ W'.cell? ⟨Kx, 4, none⟩ = some (.int .i64 v4))) (by kernel_rfl) ?_ (fun hHeld0 => ?_)
        · first | assumption | go_keep
        refine tk (i := 0) (oi := ⟨some 94, .load 42 (.tmp 5), 42, "ref.go:275", #[], none⟩) rfl ?_; (try simp only [Act.put, List.setIfInBounds_toArray, List.set_cons_succ, List.set_cons_zero])
        refine tk (i := 1) (oi := ⟨some 95, .move (.tmp 4), 54, "ref.go:275", #[], none⟩) rfl ?_; (try simp only [Act.put, List.setIfInBounds_toArray, List.set_cons_succ, List.set_cons_zero])
        refine tk (i := 2) (oi := ⟨some 96, .call { callee := .builtin .len, args := #[.tmp 95], argTypes := #[54] }, 3, "ref.go:275", #[⟨1, .data⟩], none⟩) rfl ?_; (try simp only [Act.put, List.setIfInBounds_toArray, List.set_cons_succ, List.set_cons_zero])
        refine tk (i := 3) (oi := ⟨some 97, .binOp .eql 3 (.tmp 96) (.const (.int .i64 0)) 3, 4, "ref.go:275", #[⟨2, .data⟩], none⟩) rfl ?_; (try simp only [Act.put, List.setIfInBounds_toArray, List.set_cons_succ, List.set_cons_zero])
        refine tk (i := 4) (oi := ⟨some 98, .move (.tmp 97), 4, "ref.go:275", #[⟨3, .data⟩], none⟩) rfl ?_; (try simp only [Act.put, List.setIfInBounds_toArray, List.set_cons_succ, List.set_cons_zero])
        refine tk (i := 5) (oi := ⟨some 99, .fieldAddr 42 (.tmp 5) 0, 0, "ref.go:275", #[⟨4, .guard⟩], some (4, true)⟩) rfl ?_; (try simp only [Act.put, List.setIfInBounds_toArray, List.set_cons_succ, List.set_cons_zero])
        refine tk (i := 6) (oi := ⟨some 100, .load 3 (.tmp 99), 3, "ref.go:275", #[⟨5, .data⟩, ⟨4, .guard⟩], some (4, true)⟩) rfl ?_; (try simp only [Act.put, List.setIfInBounds_toArray, List.set_cons_succ, List.set_cons_zero])
        refine tk (i := 7) (oi := ⟨some 101, .binOp .geq 3 (.tmp 100) (.const (.int .i64 0)) 3, 4, "ref.go:275", #[⟨6, .data⟩, ⟨4, .guard⟩], some (4, true)⟩) rfl ?_; (try simp only [Act.put, List.setIfInBounds_toArray, List.set_cons_succ, List.set_cons_zero])
        refine tk (i := 8) (oi := ⟨some 102, .pick (.tmp 98) (.tmp 101) (.const (.bool false)), 4, "ref.go:275", #[⟨4, .data⟩, ⟨7, .data⟩], none⟩) rfl ?_; (try simp only [Act.put, List.setIfInBounds_toArray, List.set_cons_succ, List.set_cons_zero])
        refine tk (i := 9) (oi := ⟨some 103, .move (.tmp 102), 4, "ref.go:275", #[⟨8, .data⟩, ⟨4, .chain⟩], none⟩) rfl ?_; (try simp only [Act.put, List.setIfInBounds_toArray, List.set_cons_succ, List.set_cons_zero])
        refine tk (i := 10) (oi := ⟨some 104, .load 42 (.tmp 5), 42, "ref.go:275", #[⟨9, .guard⟩], some (9, true)⟩) rfl ?_; (try simp only [Act.put, List.setIfInBounds_toArray, List.set_cons_succ, List.set_cons_zero])
        refine tk (i := 12) (oi := ⟨some 106, .move (.tmp 0), 9, "ref.go:275", #[⟨9, .guard⟩, { on := 16, ground := .gcOnly Go.Departure.lateStores }], some (9, true)⟩) rfl ?_; (try simp only [Act.put, List.setIfInBounds_toArray, List.set_cons_succ, List.set_cons_zero])
        refine tk (i := 13) (oi := ⟨some 107, .binOp .add 9 (.tmp 106) (.const (.string { data := #[10] })) 9, 9, "ref.go:275", #[⟨12, .data⟩, ⟨9, .guard⟩, { on := 16, ground := .gcOnly Go.Departure.lateStores }], some (9, true)⟩) rfl ?_; (try simp only [Act.put, List.setIfInBounds_toArray, List.set_cons_succ, List.set_cons_zero])
        refine wpAnyH_ready (rs := [11]) (by kernel_rfl) (by simp) ?_
        refine AllReadyH.cons (o := ⟨some 105, .call { callee := .value (.func 27), args := #[.tmp 104], argTypes := #[42] }, 9, "ref.go:275", #[⟨10, .data⟩, ⟨9, .chain⟩, ⟨9, .guard⟩], some (9, true)⟩) rfl (fun K hK => ?_) AllReadyH.nil
        go_simp
        (refine HFin.out.mono ?_; rintro e w5 ⟨rfl, hb5⟩; have U5 := Lib.hid ((below_drewN W 1).trans (hb5.mono (Nat.le_refl _))); have V5 := var_keep VR U5.out; have kp := Below.keep U5.out (fun _ => True); have d0 := kp _ _ trivial c0_; have d1 := kp _ _ trivial c1_; have d2 := kp _ _ trivial c2_; have d3 := kp _ _ trivial c3_; have d4 := kp _ _ trivial c4_; clear kp hb5; have SS5 : (fun W' => W'.cell? ⟨Kx, 0, none⟩ = some (.int .i64 k) ∧ W'.cell? ⟨Kx, 1, none⟩ = some (.int .i64 v1) ∧ W'.cell? ⟨Kx, 2, none⟩ = some (.slice A v2.length c) ∧ W'.cell? ⟨Kx, 3, none⟩ = some (.slice B L0.length d) ∧ W'.cell? ⟨Kx, 4, none⟩ = some (.int .i64 v4)) w5 := ⟨d0, d1, d2, d3, d4⟩; dsimp only at SS5)
        (try dsimp only)
        refine hK.out _ _ ?_ (fun hHeld1 => ?_)
        · first | trivial | ((try dsimp only); first | assumption | trivial | go_keep)
        clear hK K hHeld0
        (try simp only [Act.put, List.setIfInBounds_toArray, List.set_cons_succ, List.set_cons_zero])
        refine tk (i := 14) (oi := ⟨some 108, .binOp .eql 9 (.tmp 105) (.tmp 107) 9, 4, "ref.go:275", #[⟨11, .data⟩, ⟨13, .data⟩, ⟨9, .guard⟩, { on := 16, ground := .gcOnly Go.Departure.lateStores }], some (9, true)⟩) rfl ?_; (try simp only [Act.put, List.setIfInBounds_toArray, List.set_cons_succ, List.set_cons_zero])
        refine tk (i := 15) (oi := ⟨some 109, .pick (.tmp 103) (.tmp 108) (.const (.bool false)), 4, "ref.go:275", #[⟨9, .data⟩, ⟨14, .data⟩, { on := 16, ground := .gcOnly Go.Departure.lateStores }], none⟩) rfl ?_; (try simp only [Act.put, List.setIfInBounds_toArray, List.set_cons_succ, List.set_cons_zero])
        refine wpAnyH_ready (rs := [16]) (by kernel_rfl) (by simp) ?_
        refine AllReadyH.cons (o := ⟨none, .store 42 (.tmp 2) (.tmp 94), 0, "ref.go:275", #[⟨0, .data⟩, ⟨11, .chain⟩, ⟨0, .phase⟩, { on := 1, ground := .textOnly Go.Departure.lateStores }, { on := 2, ground := .textOnly Go.Departure.lateStoresUnsure }, { on := 3, ground := .textOnly Go.Departure.lateStores }, { on := 4, ground := .textOnly Go.Departure.lateStores }, { on := 5, ground := .textOnly Go.Departure.lateStores }, { on := 6, ground := .textOnly Go.Departure.lateStores }, { on := 7, ground := .textOnly Go.Departure.lateStores }, { on := 8, ground := .textOnly Go.Departure.lateStores }, { on := 9, ground := .textOnly Go.Departure.lateStores }, { on := 10, ground := .textOnly Go.Departure.lateStores }, { on := 11, ground := .textOnly Go.Departure.lateStoresUnsure }, { on := 12, ground := .textOnly Go.Departure.lateStores }, { on := 13, ground := .textOnly Go.Departure.lateStores }, { on := 14, ground := .textOnly Go.Departure.lateStores }, { on := 15, ground := .textOnly Go.Departure.lateStores }], none⟩) rfl (fun K hK => ?_) AllReadyH.nil
        (rw [if_pos (by rfl)]; refine wp_store_row 42 (.tmp 2) (.tmp 94) rfl w.heap.size #[.int .i64 k, .int .i64 v1, .slice A v2.length c, .slice B L0.length d, .int .i64 v4] rfl rfl 42 #[.int .i64 0, .int .i64 0, .slice none 0 0, .slice none 0 0, .int .i64 0] V5 info_send rfl (by simp [Value.oneCell']) ?_; have gS := setRow_grown w5 w.heap.size #[.int .i64 k, .int .i64 v1, .slice A v2.length c, .slice B L0.length d, .int .i64 v4]; have SS2 : (fun W' => W'.cell? ⟨Kx, 0, none⟩ = some (.int .i64 k) ∧ W'.cell? ⟨Kx, 1, none⟩ = some (.int .i64 v1) ∧ W'.cell? ⟨Kx, 2, none⟩ = some (.slice A v2.length c) ∧ W'.cell? ⟨Kx, 3, none⟩ = some (.slice B L0.length d) ∧ W'.cell? ⟨Kx, 4, none⟩ = some (.int .i64 v4)) (w5.setRow w.heap.size #[.int .i64 k, .int .i64 v1, .slice A v2.length c, .slice B L0.length d, .int .i64 v4]) := ⟨gS.cell d0 (by simp; omega), gS.cell d1 (by simp; omega), gS.cell d2 (by simp; omega), gS.cell d3 (by simp; omega), gS.cell d4 (by simp; omega)⟩; dsimp only at SS2)
        (try dsimp only)
        refine hK.out _ _ ?_ (fun hHeld2 => ?_)
        · first | trivial | ((try dsimp only); first | assumption | trivial | go_keep)
        clear hK K hHeld1
        (try simp only [Act.put, List.setIfInBounds_toArray, List.set_cons_succ, List.set_cons_zero])
        refine tk (i := 17) (oi := ⟨some 3, .assign (.tmp 109), 4, "ref.go:275", #[⟨15, .data⟩, ⟨16, .chain⟩, ⟨0, .phase⟩, ⟨1, .phase⟩, ⟨2, .phase⟩, ⟨3, .phase⟩, ⟨4, .phase⟩, ⟨5, .phase⟩, ⟨6, .phase⟩, ⟨7, .phase⟩, ⟨8, .phase⟩, ⟨9, .phase⟩, ⟨10, .phase⟩, ⟨11, .phase⟩, ⟨12, .phase⟩, ⟨13, .phase⟩, ⟨14, .phase⟩, ⟨15, .phase⟩, ⟨16, .phase⟩], none⟩) rfl ?_; (try simp only [Act.put, List.setIfInBounds_toArray, List.set_cons_succ, List.set_cons_zero])
        refine wpAnyH_done (by kernel_rfl) ?_ _
        (try dsimp only)
        repeat (first | go_values | go_skip | go_guarded | go_step | go_upon)
        have fin := rendFin SX.out U5.out #[.int .i64 k, .int .i64 v1, .slice A v2.length c, .slice B L0.length d, .int .i64 v4]
        refine bodyPost_ret (results_cell_row_tmp rfl _ _ w.heap.size _ #[.int .i64 k, .int .i64 v1, .slice A v2.length c, .slice B L0.length d, .int .i64 v4] (0, 0) _ rfl (setRow_heap w5 w.heap.size #[.int .i64 0, .int .i64 0, .slice none 0 0, .slice none 0 0, .int .i64 0] _ _ (0, 0) V5) Tryz.underlying42 rfl (by kernel_rfl)) rfl ?_
        rw [HLe.out] at fin ⊢
        obtain rfl := HR.out
        exact ⟨⟨A, c, B, d, rfl, fin.2.1, fin.2.2⟩, fin.1⟩
  · have x0 : ¬ ((l4.length : Int) + 1 = 0) := by omega
    have y0 : (((l4.length : Int) + 1) == 0) = false := by rw [beq_eq_false_iff_ne]; exact x0
    have HR : Hid (R = ((⟨k, v1, v2, es, v4⟩ : St.Fin), false)) := Lib.hid (by rw [HR.out]; rfl)
    have SS : (fun W' => W'.cell? ⟨Kx, 0, none⟩ = some (.int .i64 k) ∧ W'.cell? ⟨Kx, 1, none⟩ = some (.int .i64 v1) ∧ W'.cell? ⟨Kx, 2, none⟩ = some (.slice A v2.length c) ∧ W'.cell? ⟨Kx, 3, none⟩ = some (.slice B L0.length d) ∧ W'.cell? ⟨Kx, 4, none⟩ = some (.int .i64 v4)) (World.drew W) := ⟨c0_, c1_, c2_, c3_, c4_⟩
    dsimp only at SS
    have SSc := SS
    obtain ⟨t0, t1, t2, t3, t4⟩ := SSc
    have VD : (World.drew W).heap[w.heap.size]? = some (.cells #[.int .i64 0, .int .i64 0, .slice none 0 0, .slice none 0 0, .int .i64 0] 42 (0, 0)) := VR
    refine wp_region_held_drew (S := (fun W' => W'.cell? ⟨Kx, 0, none⟩ = some (.int .i64 k) ∧ W'.cell? ⟨Kx, 1, none⟩ = some (.int .i64 v1) ∧ W'.cell? ⟨Kx, 2, none⟩ = some (.slice A v2.length c) ∧ W'.cell? ⟨Kx, 3, none⟩ = some (.slice B L0.length d) ∧ W'.cell? ⟨Kx, 4, none⟩ = some (.int .i64 v4))) (by kernel_rfl) ?_ (fun hHeld0 => ?_)
    · first | assumption | go_keep
    refine tk (i := 0) (oi := ⟨some 94, .load 42 (.tmp 5), 42, "ref.go:275", #[], none⟩) rfl ?_; (try simp only [Act.put, List.setIfInBounds_toArray, List.set_cons_succ, List.set_cons_zero])
    refine tk (i := 1) (oi := ⟨some 95, .move (.tmp 4), 54, "ref.go:275", #[], none⟩) rfl ?_; (try simp only [Act.put, List.setIfInBounds_toArray, List.set_cons_succ, List.set_cons_zero])
    refine tk (i := 2) (oi := ⟨some 96, .call { callee := .builtin .len, args := #[.tmp 95], argTypes := #[54] }, 3, "ref.go:275", #[⟨1, .data⟩], none⟩) rfl ?_; (try simp only [Act.put, List.setIfInBounds_toArray, List.set_cons_succ, List.set_cons_zero])
    refine tk (i := 3) (oi := ⟨some 97, .binOp .eql 3 (.tmp 96) (.const (.int .i64 0)) 3, 4, "ref.go:275", #[⟨2, .data⟩], none⟩) rfl ?_; (try simp only [Act.put, List.setIfInBounds_toArray, List.set_cons_succ, List.set_cons_zero])
    refine tk (i := 4) (oi := ⟨some 98, .move (.tmp 97), 4, "ref.go:275", #[⟨3, .data⟩], none⟩) rfl ?_; (try simp only [Act.put, List.setIfInBounds_toArray, List.set_cons_succ, List.set_cons_zero])
    refine tkN (i := 5) (oi := ⟨some 99, .fieldAddr 42 (.tmp 5) 0, 0, "ref.go:275", #[⟨4, .guard⟩], some (4, true)⟩) rfl ?_; (try simp only [Act.put, List.setIfInBounds_toArray, List.set_cons_succ, List.set_cons_zero])
    refine tkN (i := 6) (oi := ⟨some 100, .load 3 (.tmp 99), 3, "ref.go:275", #[⟨5, .data⟩, ⟨4, .guard⟩], some (4, true)⟩) rfl ?_; (try simp only [Act.put, List.setIfInBounds_toArray, List.set_cons_succ, List.set_cons_zero])
    refine tkN (i := 7) (oi := ⟨some 101, .binOp .geq 3 (.tmp 100) (.const (.int .i64 0)) 3, 4, "ref.go:275", #[⟨6, .data⟩, ⟨4, .guard⟩], some (4, true)⟩) rfl ?_; (try simp only [Act.put, List.setIfInBounds_toArray, List.set_cons_succ, List.set_cons_zero])
    refine tk (i := 8) (oi := ⟨some 102, .pick (.tmp 98) (.tmp 101) (.const (.bool false)), 4, "ref.go:275", #[⟨4, .data⟩, ⟨7, .data⟩], none⟩) rfl ?_; (try simp only [Act.put, List.setIfInBounds_toArray, List.set_cons_succ, List.set_cons_zero])
    refine tk (i := 9) (oi := ⟨some 103, .move (.tmp 102), 4, "ref.go:275", #[⟨8, .data⟩, ⟨4, .chain⟩], none⟩) rfl ?_; (try simp only [Act.put, List.setIfInBounds_toArray, List.set_cons_succ, List.set_cons_zero])
    refine tkN (i := 10) (oi := ⟨some 104, .load 42 (.tmp 5), 42, "ref.go:275", #[⟨9, .guard⟩], some (9, true)⟩) rfl ?_; (try simp only [Act.put, List.setIfInBounds_toArray, List.set_cons_succ, List.set_cons_zero])
    refine tkN (i := 11) (oi := ⟨some 105, .call { callee := .value (.func 27), args := #[.tmp 104], argTypes := #[42] }, 9, "ref.go:275", #[⟨10, .data⟩, ⟨9, .chain⟩, ⟨9, .guard⟩], some (9, true)⟩) rfl ?_; (try simp only [Act.put, List.setIfInBounds_toArray, List.set_cons_succ, List.set_cons_zero])
    refine tkN (i := 12) (oi := ⟨some 106, .move (.tmp 0), 9, "ref.go:275", #[⟨9, .guard⟩, { on := 16, ground := .gcOnly Go.Departure.lateStores }], some (9, true)⟩) rfl ?_; (try simp only [Act.put, List.setIfInBounds_toArray, List.set_cons_succ, List.set_cons_zero])
    refine tkN (i := 13) (oi := ⟨some 107, .binOp .add 9 (.tmp 106) (.const (.string { data := #[10] })) 9, 9, "ref.go:275", #[⟨12, .data⟩, ⟨9, .guard⟩, { on := 16, ground := .gcOnly Go.Departure.lateStores }], some (9, true)⟩) rfl ?_; (try simp only [Act.put, List.setIfInBounds_toArray, List.set_cons_succ, List.set_cons_zero])
    refine tkN (i := 14) (oi := ⟨some 108, .binOp .eql 9 (.tmp 105) (.tmp 107) 9, 4, "ref.go:275", #[⟨11, .data⟩, ⟨13, .data⟩, ⟨9, .guard⟩, { on := 16, ground := .gcOnly Go.Departure.lateStores }], some (9, true)⟩) rfl ?_; (try simp only [Act.put, List.setIfInBounds_toArray, List.set_cons_succ, List.set_cons_zero])
    refine tk (i := 15) (oi := ⟨some 109, .pick (.tmp 103) (.tmp 108) (.const (.bool false)), 4, "ref.go:275", #[⟨9, .data⟩, ⟨14, .data⟩, { on := 16, ground := .gcOnly Go.Departure.lateStores }], none⟩) rfl ?_; (try simp only [Act.put, List.setIfInBounds_toArray, List.set_cons_succ, List.set_cons_zero])
    refine wpAnyH_ready (rs := [16]) (by kernel_rfl) (by simp) ?_
    refine AllReadyH.cons (o := ⟨none, .store 42 (.tmp 2) (.tmp 94), 0, "ref.go:275", #[⟨0, .data⟩, ⟨11, .chain⟩, ⟨0, .phase⟩, { on := 1, ground := .textOnly Go.Departure.lateStores }, { on := 2, ground := .textOnly Go.Departure.lateStoresUnsure }, { on := 3, ground := .textOnly Go.Departure.lateStores }, { on := 4, ground := .textOnly Go.Departure.lateStores }, { on := 5, ground := .textOnly Go.Departure.lateStores }, { on := 6, ground := .textOnly Go.Departure.lateStores }, { on := 7, ground := .textOnly Go.Departure.lateStores }, { on := 8, ground := .textOnly Go.Departure.lateStores }, { on := 9, ground := .textOnly Go.Departure.lateStores }, { on := 10, ground := .textOnly Go.Departure.lateStores }, { on := 11, ground := .textOnly Go.Departure.lateStoresUnsure }, { on := 12, ground := .textOnly Go.Departure.lateStores }, { on := 13, ground := .textOnly Go.Departure.lateStores }, { on := 14, ground := .textOnly Go.Departure.lateStores }, { on := 15, ground := .textOnly Go.Departure.lateStores }], none⟩) rfl (fun K hK => ?_) AllReadyH.nil
    (rw [if_pos (by rfl)]; refine wp_store_row 42 (.tmp 2) (.tmp 94) rfl w.heap.size #[.int .i64 k, .int .i64 v1, .slice A v2.length c, .slice B L0.length d, .int .i64 v4] rfl rfl 42 #[.int .i64 0, .int .i64 0, .slice none 0 0, .slice none 0 0, .int .i64 0] VD info_send rfl (by simp [Value.oneCell']) ?_; have gS := setRow_grown (World.drew W) w.heap.size #[.int .i64 k, .int .i64 v1, .slice A v2.length c, .slice B L0.length d, .int .i64 v4]; have SS2 : (fun W' => W'.cell? ⟨Kx, 0, none⟩ = some (.int .i64 k) ∧ W'.cell? ⟨Kx, 1, none⟩ = some (.int .i64 v1) ∧ W'.cell? ⟨Kx, 2, none⟩ = some (.slice A v2.length c) ∧ W'.cell? ⟨Kx, 3, none⟩ = some (.slice B L0.length d) ∧ W'.cell? ⟨Kx, 4, none⟩ = some (.int .i64 v4)) ((World.drew W).setRow w.heap.size #[.int .i64 k, .int .i64 v1, .slice A v2.length c, .slice B L0.length d, .int .i64 v4]) := ⟨gS.cell t0 (by simp; omega), gS.cell t1 (by simp; omega), gS.cell t2 (by simp; omega), gS.cell t3 (by simp; omega), gS.cell t4 (by simp; omega)⟩; dsimp only at SS2)
    (try dsimp only)
    refine hK.out _ _ ?_ (fun hHeld1 => ?_)
    · first | trivial | ((try dsimp only); first | assumption | trivial | go_keep)
    clear hK K hHeld0
    (try simp only [Act.put, List.setIfInBounds_toArray, List.set_cons_succ, List.set_cons_zero])
    refine tk (i := 17) (oi := ⟨some 3, .assign (.tmp 109), 4, "ref.go:275", #[⟨15, .data⟩, ⟨16, .chain⟩, ⟨0, .phase⟩, ⟨1, .phase⟩, ⟨2, .phase⟩, ⟨3, .phase⟩, ⟨4, .phase⟩, ⟨5, .phase⟩, ⟨6, .phase⟩, ⟨7, .phase⟩, ⟨8, .phase⟩, ⟨9, .phase⟩, ⟨10, .phase⟩, ⟨11, .phase⟩, ⟨12, .phase⟩, ⟨13, .phase⟩, ⟨14, .phase⟩, ⟨15, .phase⟩, ⟨16, .phase⟩], none⟩) rfl ?_; (try simp only [Act.put, List.setIfInBounds_toArray, List.set_cons_succ, List.set_cons_zero])
    refine wpAnyH_done (by kernel_rfl) ?_ _
    (try dsimp only)
    repeat (first | go_values | go_skip | go_guarded | go_step | go_upon)
    have fin := rendFin SX.out (below_drewN W 1) #[.int .i64 k, .int .i64 v1, .slice A v2.length c, .slice B L0.length d, .int .i64 v4]
    refine bodyPost_ret (results_cell_row_tmp rfl _ _ w.heap.size _ #[.int .i64 k, .int .i64 v1, .slice A v2.length c, .slice B L0.length d, .int .i64 v4] (0, 0) _ rfl (setRow_heap (World.drew W) w.heap.size #[.int .i64 0, .int .i64 0, .slice none 0 0, .slice none 0 0, .int .i64 0] _ _ (0, 0) VR) Tryz.underlying42 rfl (by kernel_rfl)) rfl ?_
    rw [HLe.out] at fin ⊢
    obtain rfl := HR.out
    exact ⟨⟨A, c, B, d, rfl, fin.2.1, fin.2.2⟩, fin.1⟩
end Go.Proofs.YtmhmpobjjhbklaaGreatDoor
