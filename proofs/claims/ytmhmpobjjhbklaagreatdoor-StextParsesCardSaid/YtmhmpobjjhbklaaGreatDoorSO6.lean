/-
  Layer 40, the program: readEnd. (Printed by gen_so6.py.)
-/
import Derived.Test.YtmhmpobjjhbklaaGreatDoorSO5
set_option linter.unusedVariables false
set_option linter.unusedSimpArgs false
namespace Go.Proofs.YtmhmpobjjhbklaaGreatDoor
namespace St
theorem numsGo_sum (l : List W) (ok : Bool) : (numsGo l ok).1.length + (numsGo l ok).2.l.length = l.length := by
  induction l generalizing ok with
  | nil => simp [numsGo]
  | cons w l ih =>
    unfold numsGo
    split
    · have := ih (ok && (pint w).2); simp only [List.length_cons]; omega
    · simp
theorem takeO_true {w : W} {r : Rs} (h : (takeO w r).1 = true) : r.l = w :: (takeO w r).2.l := by
  unfold takeO at h ⊢
  split
  · rename_i h1
    obtain ⟨l, ok⟩ := r
    rcases l with _ | ⟨a, l⟩
    · cases h1
    · simp at h1; simp [h1]
  · rename_i h1; rw [if_neg h1] at h; cases h
theorem edgesO_nil (f : Nat) (ok : Bool) : edgesO f ⟨[], ok⟩ = ([], ⟨[], ok⟩) := by
  cases f with
  | zero => rfl
  | succ f => unfold edgesO takeO; simp
theorem edgesO_in (f : Nat) (r : Rs) : ecount (edgesO f r).1 ≤ r.l.length + 1 ∧ (r.l.length ≤ 10000 → ∀ e ∈ (edgesO f r).1, e.Ok) ∧ (edgesO f r).2.l.length ≤ r.l.length := by
  induction f generalizing r with
  | zero => simp [edgesO, ecount]
  | succ f ih =>
    unfold edgesO
    split
    · rename_i h
      have h0 := takeO_true h
      have hl := congrArg List.length h0
      simp only [List.length_cons] at hl
      obtain ⟨t, ht⟩ : ∃ t, (takeO lTo r).2 = t := ⟨_, rfl⟩
      rw [ht] at hl ⊢
      dsimp only [numO, numsO]
      have h1 := numsGo_sum t.l.tail (t.ok && (pint (t.l.headD [])).2)
      have h2 := numsGo_in t.l.tail (t.ok && (pint (t.l.headD [])).2)
      obtain ⟨h3, h4, h5⟩ := ih (numsGo t.l.tail (t.ok && (pint (t.l.headD [])).2)).2
      have ht2 : t.l.tail.length = t.l.length - 1 := List.length_tail
      refine ⟨?_, fun hb e he => ?_, by omega⟩
      · rw [show ∀ (a : Edge) (m : List Edge), ecount (a :: m) = a.args.length + 2 + ecount m from fun a m => by simp [ecount]]
        dsimp only
        rcases hn : t.l with _ | ⟨u, tl⟩
        · rw [hn] at h1 h3 hl
          simp [numsGo] at h1 h3 hl ⊢
          rw [edgesO_nil]
          simp [ecount]; omega
        · rw [hn] at hl ht2 h1 h3
          simp only [List.length_cons, List.tail_cons] at hl ht2 h1 h3 ⊢
          omega
      · rcases List.mem_cons.1 he with rfl | he
        · exact ⟨pint_in _, by have := h2.1; dsimp only; omega, h2.2⟩
        · exact h4 (by omega) e he
    · simp [ecount]
theorem finF_ok (k : Int) (r : Rs) (h : r.l.length ≤ 10000) : (finF k r).1.Ok := by
  unfold finF
  dsimp only
  have h2 := optNum_in lOn r
  have h5 := optNums_in lOf (optNum lOn r).2
  have h6 := edgesO_in (optNums lOf (optNum lOn r).2).2.l.length (optNums lOf (optNum lOn r).2).2
  have h7 := optNum_in lTrap (edgesO (optNums lOf (optNum lOn r).2).2.l.length (optNums lOf (optNum lOn r).2).2).2
  have h51 := h5.1.1
  have h20 := h2.2
  have h52 := h5.2
  have h61 := h6.1
  refine ⟨h2.1, ⟨?_, h5.1.2⟩, ⟨?_, h6.2.1 (by omega)⟩, h7.1⟩ <;> dsimp only <;> omega
end St
open Go.RowKit
open St (InR)
theorem info_sedge : (Tryz.prog.info? 50).map (fun i => (i.zero, i.size, i.bytes)) = some (some (.agg #[.int .i64 0, .slice none 0 0]), 2, 32) := by kernel_rfl
theorem info_send : (Tryz.prog.info? 42).map (·.size) = some 5 := by kernel_rfl
abbrev EdV := St.Edge × Option Addr × Nat
def encE (p : EdV) : List Value := [.int .i64 p.1.tgt, .slice p.2.1 p.1.args.length p.2.2]
theorem encE_len (p : EdV) : (encE p).length = 2 := rfl
theorem encE_one (p : EdV) : ∀ u ∈ encE p, u.oneCell' = true := by simp [encE, Value.oneCell']
theorem own_stay {W W' : World} {base k n b : Nat} {v : Value} {xs : List Value} {e : TypeId} (h : W.ownsRow base e k v n xs) (hg : W.grownBy W' (some b)) (hk : b < base) : W'.ownsRow base e k v n xs :=
  h.kept hg (.inr (fun e => by have := (h.lt _ e).1; omega))
theorem own_belowW {W W' : World} {base k n : Nat} {v : Value} {xs : List Value} {e : TypeId} (h : W.ownsRow base e k v n xs) (hb : Below W.heap.size W W') : W'.ownsRow base e k v n xs := by
  refine h.kept (row := none) ⟨hb.os, hb.tape, hb.output, hb.size, fun b hl _ => hb.block b hl⟩ ?_
  cases v.ownBlock <;> simp
/-- 'append(out, l...)' inside a region that draws its order. -/
theorem step_app {α : Type} {enc : α → List Value} {k bytes : Nat} {t e : TypeId} {z : Value} {i0 : TypeInfo} (hu : Tryz.prog.underlying t = some (.slice e)) (hi : Tryz.prog.info? e = some i0) (hz0 : i0.zero = some z) (hz1 : i0.size = k) (hz2 : i0.bytes = bytes) (hzs : z.cells.size = k) (hk0 : 0 < k)
    (hk : ∀ x, (enc x).length = k) (h1 : ∀ x, ∀ u ∈ enc x, u.oneCell' = true)
    {ops : Array Oper} {o : Oper} {a : Act} {K : Act → World → Prop} {Q : Exit → Act → World → Prop} {E : Prop} (w : World) (hgd : o.guard = none) (s x : Operand)
    (ho : o.op = .call { callee := .builtin .append, args := #[s, x], argTypes := #[t, t] })
    (base : Nat) (v : Value) (n : Nat) (l : List α) (hs : a.eval s = v) (hown : w.ownsRow base e k v n (l.flatMap enc)) (m : List α) (M c : Nat) (A : Option Addr) (hM : m.length = M)
    (hx : a.eval x = .slice A M c) (hrd : Reads w w.heap.size k A M (m.flatMap enc)) (hlen : n + M ≤ 1000000000) (hby : bytes ≤ 1000) (hbase : base ≤ w.heap.size)
    (h : ∀ A' c' w', w'.ownsRow base e k (.slice A' (n + M) c') (n + M) ((l ++ m).flatMap enc) → w.grownBy w' v.ownBlock → K (a.put o.dst (.slice A' (n + M) c')) w') :
    if Region.wanted o (yielded ops a.tmps) = true then Oper.wp Tryz.prog o a w K Q else E := by
  subst hM
  have hw : Region.wanted o (yielded ops a.tmps) = true := by simp [Region.wanted, hgd]
  rw [if_pos hw]
  refine wp_append_any w s x t ho base e i0 z k bytes hu hi hz0 hz1 hz2 hzs hk0 v n (l.flatMap enc) hs hown w.heap.size A m.length c (m.flatMap enc) hx hrd (flat_one h1 m) (by unfold maxLen; omega) ?_ hbase ?_
  · have := Nat.mul_le_mul hlen hby
    omega
  · intro v' w' h1 h2 h3
    obtain ⟨A', c', rfl, _, _⟩ := own_slice h1
    exact h A' c' w' (by rw [List.flatMap_append]; exact h1) h2
def finC (x : St.Fin) (A : Option Addr) (c : Nat) (B : Option Addr) (n d : Nat) : Array Value := #[.int .i64 x.kind, .int .i64 x.cond, .slice A x.args.length c, .slice B n d, .int .i64 x.trap]
theorem finC_nos (x : St.Fin) (A : Option Addr) (c : Nat) (B : Option Addr) (n d : Nat) : ∀ v ∈ (finC x A c B n d).toList, ∀ y : List UInt8, (encS y)[0]? ≠ some v := by
  intro v hv y
  simp [finC] at hv
  rcases hv with rfl | rfl | rfl | rfl | rfl <;> simp [encS]
/-- The state of readEnd: the result's cell, the reader, the terminator so far. -/
structure EndAt (w W : World) (K1 Kr Kx : Nat) (x : St.Fin) (r : St.Rs) (A : Option Addr) (c : Nat) (B : Option Addr) (d : Nat) (L : List EdV) : Prop where
  bel : Below w.heap.size w W
  res : Var W K1 #[.int .i64 0, .int .i64 0, .slice none 0 0, .slice none 0 0, .int .i64 0] 42
  rd : RAt W Kr Kr r.l r.ok
  cur : Var W Kx (finC x A c B L.length d) 42
  ar : Row W Kx A x.args
  ed : L.map Prod.fst = x.edges
  own : W.ownsRow (Kx + 1) 50 2 (.slice B L.length d) L.length (L.flatMap encE)
  rows : ∀ p ∈ L, Row W Kx p.2.1 p.1.args
  lo : w.heap.size ≤ K1
  l1 : K1 < Kr
  l2 : Kr < Kx
def EndSt (w W : World) (K1 Kr Kx : Nat) (x : St.Fin) (r : St.Rs) : Prop := ∃ A c B d L, EndAt w W K1 Kr Kx x r A c B d L
section
variable {w W W' : World} {K1 Kr Kx : Nat} {x : St.Fin} {r : St.Rs} {A B : Option Addr} {c d : Nat} {L : List EdV}
theorem EndAt.st (S : EndAt w W K1 Kr Kx x r A c B d L) : EndSt w W K1 Kr Kx x r := ⟨A, c, B, d, L, S⟩
theorem EndAt.ltx (S : EndAt w W K1 Kr Kx x r A c B d L) : Kx < W.heap.size := S.cur.lt
theorem EndAt.step (S : EndAt w W K1 Kr Kx x r A c B d L) {r' : St.Rs} (hr : RAt W' Kr Kr r'.l r'.ok) (hg : W.grownBy W' (some Kr)) : EndAt w W' K1 Kr Kx x r' A c B d L := by
  obtain ⟨h1, h2, h3, h4, h5, h6, h6b, h6c, h7, h8, h9⟩ := S
  exact ⟨below_grown h1 hg h1.size (by omega), var_stay h2 hg (by omega), hr, var_stay h4 hg (by omega), h5.stay hg (by omega), h6, own_stay h6b hg (by omega), fun p hp => (h6c p hp).stay hg (by omega), h7, h8, h9⟩
theorem EndAt.below (S : EndAt w W K1 Kr Kx x r A c B d L) (hb : Below W.heap.size W W') : EndAt w W' K1 Kr Kx x r A c B d L := by
  obtain ⟨h1, h2, h3, h4, h5, h6, h6b, h6c, h7, h8, h9⟩ := S
  exact ⟨h1.trans (hb.mono h1.size), var_keep h2 hb, h3.below hb, var_keep h4 hb, h5.below hb, h6, own_belowW h6b hb, fun p hp => (h6c p hp).below hb, h7, h8, h9⟩
theorem EndAt.cells (S : EndAt w W K1 Kr Kx x r A c B d L) : ∀ i, i < 5 → W.frozen? ⟨Kx, i, none⟩ = false ∧ ∃ v, W.cell? ⟨Kx, i, none⟩ = some v := by
  intro i hi
  refine ⟨S.cur.froz i, ?_⟩
  rw [S.cur.cells]
  exact ⟨_, Array.getElem?_eq_getElem (by simpa [finC] using hi)⟩
theorem EndAt.set (S : EndAt w W K1 Kr Kx x r A c B d L) (i : Nat) (u : Value) {y : St.Fin} {A' c'} (hy : (finC x A c B L.length d).setIfInBounds i u = finC y A' c' B L.length d) (h5 : Row W Kx A' y.args) (he : y.edges = x.edges) : EndAt w (W.setCell ⟨Kx, i, none⟩ u) K1 Kr Kx y r A' c' B d L := by
  have hg := grown_set W Kx i u
  have hs := S.cur.set i u
  rw [hy] at hs
  have hv := S.cur
  obtain ⟨h1, h2, h3, -, -, h6, h6b, h6c, h7, h8, h9⟩ := S
  exact ⟨h1.setCell (p := ⟨Kx, i, none⟩) (by show w.heap.size ≤ Kx; omega) u, var_stay h2 hg (by omega), h3.other hv (by omega) (finC_nos _ _ _ _ _ _) hg, hs, h5.stay hg (Nat.le_refl _), h6.trans he.symm, own_stay h6b hg (by omega), fun p hp => (h6c p hp).stay hg (Nat.le_refl _), h7, h8, h9⟩
theorem EndAt.setCond (S : EndAt w W K1 Kr Kx x r A c B d L) (z : Int) : EndAt w (W.setCell ⟨Kx, 1, none⟩ (.int .i64 z)) K1 Kr Kx ⟨x.kind, z, x.args, x.edges, x.trap⟩ r A c B d L :=
  S.set (A' := A) (c' := c) 1 _ (by simp [finC]) S.ar rfl
theorem EndAt.setTrap (S : EndAt w W K1 Kr Kx x r A c B d L) (z : Int) : EndAt w (W.setCell ⟨Kx, 4, none⟩ (.int .i64 z)) K1 Kr Kx ⟨x.kind, x.cond, x.args, x.edges, z⟩ r A c B d L :=
  S.set (A' := A) (c' := c) 4 _ (by simp [finC]) S.ar rfl
theorem EndAt.setArgs (S : EndAt w W K1 Kr Kx x r A c B d L) {A' c' l} (h : Row W Kx A' l) : EndAt w (W.setCell ⟨Kx, 2, none⟩ (.slice A' l.length c')) K1 Kr Kx ⟨x.kind, x.cond, l, x.edges, x.trap⟩ r A' c' B d L :=
  S.set (A' := A') (c' := c') 2 _ (by simp [finC]) h rfl
/-- An edge appended, and the slice stored. -/
theorem EndAt.app (S : EndAt w W K1 Kr Kx x r A c B d L) {p : EdV} (hp : Row W Kx p.2.1 p.1.args) {B' : Option Addr} {d' : Nat} (own : W'.ownsRow (Kx + 1) 50 2 (.slice B' (L.length + 1) d') (L.length + 1) ((L ++ [p]).flatMap encE)) (hg : W.grownBy W' (Value.slice B L.length d).ownBlock) :
    EndAt w (W'.setCell ⟨Kx, 3, none⟩ (.slice B' (L.length + 1) d')) K1 Kr Kx ⟨x.kind, x.cond, x.args, x.edges ++ [p.1], x.trap⟩ r A c B' d' (L ++ [p]) := by
  obtain ⟨h1, h2, h3, h4, h5, h6, h6b, h6c, h7, h8, h9⟩ := S
  have hge : ∀ j, (Value.slice B L.length d).ownBlock = some j → Kx + 1 ≤ j := fun j hj => (h6b.lt j hj).1
  have k2 := var_grown h2 h6b (by decide) hg
  have k4 := var_grown h4 h6b (by decide) hg
  have k3 := h3.grown h6b (by omega) (by decide) hg
  have k5 := h5.apart h6b (by decide) hg
  have k6 : ∀ q ∈ L ++ [p], Row W' Kx q.2.1 q.1.args := fun q hq => by
    rcases List.mem_append.1 hq with hq | hq
    · exact (h6c q hq).apart h6b (by decide) hg
    · rw [List.mem_singleton.1 hq]; exact hp.apart h6b (by decide) hg
  have k1 : Below w.heap.size w W' := h1.grown hg h1.size (fun j hj => by have := hge j hj; omega)
  have gs := grown_set W' Kx 3 (.slice B' (L.length + 1) d')
  have hs := k4.set 3 (.slice B' (L.length + 1) d')
  exact ⟨k1.setCell (p := ⟨Kx, 3, none⟩) (by show w.heap.size ≤ Kx; omega) _, var_stay k2 gs (by omega), k3.other k4 (by omega) (finC_nos _ _ _ _ _ _) gs, by rw [List.length_append]; simpa [finC] using hs, k5.stay gs (Nat.le_refl _), by simp [h6], by rw [List.length_append]; exact own_stay own gs (by omega), fun q hq => (k6 q hq).stay gs (Nat.le_refl _), h7, h8, h9⟩
theorem EndAt.edges (S : EndAt w W K1 Kr Kx x r A c B d L) : RdT W (fun _ => True) B 2 (EdgeAt (fun _ => True)) x.edges := by
  intro hl
  have hL : L ≠ [] := fun e => hl (by rw [← S.ed, e]; rfl)
  obtain ⟨g, o, e, hb, hc⟩ := own_rds encE_len (by omega) S.own hL
  refine ⟨g, o, e, trivial, hb, fun i hi => ?_⟩
  have hi2 : i < L.length := by rw [← S.ed] at hi; simpa using hi
  have he : x.edges[i] = L[i].1 := by simp [← S.ed]
  have c0 := hc i hi2 0 _ rfl
  have c1 := hc i hi2 1 _ rfl
  rw [he]
  exact ⟨c0, _, _, c1, RdZ.of_rds (S.rows _ (List.getElem_mem _)).1 (fun _ _ _ => trivial)⟩
end
/-- What readEnd gives. -/
def EndOut (N : Nat) (R : St.Fin × Bool) (e : Ending) (w' : World) : Prop :=
  ∃ A c B d, e = .returned (.tuple #[.agg (finC R.1 A c B R.1.edges.length d), .bool R.2]) ∧ RdZ w' (fun g => N ≤ g) A R.1.args ∧ RdT w' (fun g => N ≤ g) B 2 (EdgeAt (fun g => N ≤ g)) R.1.edges
end Go.Proofs.YtmhmpobjjhbklaaGreatDoor
